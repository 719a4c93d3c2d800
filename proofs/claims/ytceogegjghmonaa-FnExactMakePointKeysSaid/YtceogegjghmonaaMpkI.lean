/- MakePointKeys of the program: the walk. -/
import Derived.Test.YtceogegjghmonaaMpk
namespace Go.Proofs.Ytceogegjghmonaa
set_option linter.unusedVariables false
open Go.RowKit

/-- What MakePointKeys hands back where its arguments are good. -/
def MkFin (w : World) (ra rb : Int) (n : Nat) (cs : List Corr) (e : Ending) (w' : World) : Prop := ∃ A1 l1 c1 A2 l2 c2, e = .returned (.tuple #[.agg #[.int .i64 ra, .int .i64 0, .slice A1 l1 c1], .agg #[.int .i64 rb, .int .i64 1, .slice A2 l2 c2], .bool true]) ∧
  w'.ownsRow 0 116 3 (.slice A1 l1 c1) n (cellsC cs) ∧ w'.ownsRow 0 116 3 (.slice A2 l2 c2) n (cellsC cs) ∧ (∀ q, (Value.slice A1 l1 c1).ownBlock = some q → w.heap.size ≤ q) ∧ (∀ q, (Value.slice A2 l2 c2).ownBlock = some q → w.heap.size ≤ q) ∧ (∀ q, (Value.slice A1 l1 c1).ownBlock = some q → (Value.slice A2 l2 c2).ownBlock = some q → False) ∧ Below w.heap.size w w'
theorem boxD {w : World} {g : Nat} {t : TypeId} {cs : Array Value} (h : Box w g t cs) : Box w.drew g t cs := h
theorem set3 (a0 a1 a2 x y z : Value) : (((#[a0, a1, a2] : Array Value).setIfInBounds 0 x).setIfInBounds 1 y).setIfInBounds 2 z = #[x, y, z] := by simp
set_option maxHeartbeats 1000000 in
set_option maxRecDepth 100000 in
theorem implMpk_c (n : Nat) (p ra rb : Int) (w : World) (hn1 : 1 ≤ n) (hn6 : n ≤ 6) (hp0 : 0 ≤ p) (hp2 : p < 2 ^ n) (ha0 : 0 ≤ ra) (ha1 : ra ≤ 2147483646) (hb0 : 0 ≤ rb) (hb1 : rb ≤ 2147483646) :
    Calls Try.prog 44 #[.int .i64 (n : Int), .int .i64 p, .int .i64 ra, .int .i64 rb] w (MkFin w ra rb n (kcs ra rb p n n)) := by
  have LF := Lib.hid (implLeaf_t n p w hn6 (show leafOk n p = true from decide_eq_true ⟨hp0, by omega⟩))
  have LF2 : Hid (∀ W, Calls Try.prog 106 #[.int .i64 (n : Int), .int .i64 p] W fun e w' => e = .returned (.bool true) ∧ W = w') := Lib.hid (fun W => implLeaf_t n p W hn6 (show leafOk n p = true from decide_eq_true ⟨hp0, by omega⟩))
  have M0 : Hid (MkAt 63 116 w ra rb (.slice none 0 0) (.slice none 0 0) 0 [] ((((w.alloc (.cells #[.int .i64 0, .int .i64 0, .slice none 0 0] 63)).alloc (.cells #[.int .i64 0, .int .i64 0, .slice none 0 0] 63)).alloc (.cells #[.int .i64 ra, .int .i64 0, .slice none 0 0] 63)).alloc (.cells #[.int .i64 rb, .int .i64 1, .slice none 0 0] 63))) := Lib.hid (by
    have s1 : (w.alloc (.cells #[.int .i64 0, .int .i64 0, .slice none 0 0] 63)).heap.size = w.heap.size + 1 := by simp
    have s2 : ((w.alloc (.cells #[.int .i64 0, .int .i64 0, .slice none 0 0] 63)).alloc (.cells #[.int .i64 0, .int .i64 0, .slice none 0 0] 63)).heap.size = w.heap.size + 2 := by simp
    have s3 : (((w.alloc (.cells #[.int .i64 0, .int .i64 0, .slice none 0 0] 63)).alloc (.cells #[.int .i64 0, .int .i64 0, .slice none 0 0] 63)).alloc (.cells #[.int .i64 ra, .int .i64 0, .slice none 0 0] 63)).heap.size = w.heap.size + 3 := by simp
    have b1 := Box.new w 63 #[.int .i64 0, .int .i64 0, .slice none 0 0]
    have b2 := Box.new (w.alloc (.cells #[.int .i64 0, .int .i64 0, .slice none 0 0] 63)) 63 #[.int .i64 0, .int .i64 0, .slice none 0 0]
    have b3 := Box.new ((w.alloc (.cells #[.int .i64 0, .int .i64 0, .slice none 0 0] 63)).alloc (.cells #[.int .i64 0, .int .i64 0, .slice none 0 0] 63)) 63 #[.int .i64 ra, .int .i64 0, .slice none 0 0]
    have b4 := Box.new (((w.alloc (.cells #[.int .i64 0, .int .i64 0, .slice none 0 0] 63)).alloc (.cells #[.int .i64 0, .int .i64 0, .slice none 0 0] 63)).alloc (.cells #[.int .i64 ra, .int .i64 0, .slice none 0 0] 63)) 63 #[.int .i64 rb, .int .i64 1, .slice none 0 0]
    rw [s1] at b2
    rw [s2] at b3
    rw [s3] at b4
    exact {
      r1 := ((b1.alloc _).alloc _).alloc _
      r2 := (b2.alloc _).alloc _
      a := b3.alloc _
      b := b4
      oa := World.ownsRow_nil _ _ _ _
      ob := World.ownsRow_nil _ _ _ _
      ga := fun q hq => by simp [Value.ownBlock] at hq
      gb := fun q hq => by simp [Value.ownBlock] at hq
      ne := fun q hq => by simp [Value.ownBlock] at hq
      bel := (((below_alloc w _).alloc (by simp) _).alloc (by simp; omega) _).alloc (by simp; omega) _ })
  clear LF
  go_enter Try.func44, Try.ntmps44
  go_wp2_with (first | (go_at_call 100; refine (implIn_t _ _ _ _ (by omega) (by omega)).mono ?_; rintro e w' ⟨rfl, rfl⟩) | (go_at_call 106; refine (LF2.out _).mono ?_; rintro e w' ⟨rfl, rfl⟩))
  generalize ((((w.alloc (.cells #[.int .i64 0, .int .i64 0, .slice none 0 0] 63)).alloc (.cells #[.int .i64 0, .int .i64 0, .slice none 0 0] 63)).alloc (.cells #[.int .i64 ra, .int .i64 0, .slice none 0 0] 63)).alloc (.cells #[.int .i64 rb, .int .i64 1, .slice none 0 0] 63)) = wI at *
  go_loopw [13, 14, 15, 16, 17] (fun sa ta sb tb k wr => ∃ (i : Nat) (va vb : Value) (S : KSt), i ≤ n ∧ k = .int .i64 ((n : Int) - 1 - (i : Int)) ∧ sa = .int .i64 S.sa ∧ ta = .int .i64 S.ta ∧ sb = .int .i64 S.sb ∧ tb = .int .i64 S.tb ∧ Hid (kst ra rb p n i = S) ∧ Hid (MkAt 63 116 w ra rb va vb i (kcs ra rb p n i) wr)) (fun _ _ _ _ k _ => (intOf k + 1).toNat)
  case atStart => exact ⟨0, _, _, ⟨ra, 0, rb, 1⟩, Nat.zero_le _, by congr 1; omega, rfl, rfl, rfl, rfl, Lib.hid rfl, M0⟩
  case round =>
    obtain ⟨i, va, vb, S, hi, rfl, rfl, rfl, rfl, rfl, HS, HM⟩ := hrel
    clear M0
    obtain ⟨sa, ta, sb, tb⟩ := S
    by_cases hlt : i < n
    · have hd := sideAt_bd p n i
      have SD : Hid (sideAt p n i = p / 2 ^ (n - 1 - i) % 2) := Lib.hid rfl
      have wb : ((n : Int) - 1 - (i : Int)).toNat = n - 1 - i := by omega
      have wc : (0 : Int) ≤ (n : Int) - 1 - (i : Int) := by omega
      have wd : (n : Int) - 1 - (i : Int) ≤ 64 := by omega
      obtain ⟨d, hde⟩ : ∃ d, sideAt p n i = d := ⟨_, rfl⟩
      have HD := Lib.hid hde
      rw [hde] at hd SD
      clear hde
      go_wp2_with fail
      rw [i64_and1, ← SD.out]
      have hwr : wrap64 (1 - d) = 1 - d := by unfold wrap64; omega
      rw [hwr]
      have hd2 : d = 0 ∨ d = 1 := by omega
      clear hwr SD wb wc wd hd
      rcases hd2 with rfl | rfl
      · have hz : (1 : Int) - 0 = 1 := rfl
        rw [hz]
        have VA := Lib.hid (fun q hq => (HM.out.oa.lt q hq).2)
        have VB := Lib.hid (fun q hq => (HM.out.ob.lt q hq).2)
        have HW4 : Hid (w.heap.size + 4 ≤ wr.heap.size) := Lib.hid (by have := HM.out.b.lt; omega)
        have bA := below_alloc wr (.cells #[.int .i64 0, .int .i64 0] 114)
        have X0 := Lib.hid (Box.new wr 114 #[.int .i64 0, .int .i64 0])
        refine (implControlBit_c _ _ _).mono ?_
        rintro e w1 ⟨rfl, b1⟩
        have X1 := Lib.hid (X0.out.below b1 X0.out.lt)
        have t1 := bA.trans (b1.mono (by simp))
        clear b1 X0 bA
        go_wp2_with fail
        refine (implControlBit_c _ _ _).mono ?_
        rintro e w2 ⟨rfl, b2⟩
        have X2 := Lib.hid (X1.out.below b2 X1.out.lt)
        have t2 := t1.trans (b2.mono t1.size)
        have x2 : w2.cell? ⟨wr.heap.size, 0, none⟩ = some (.int .i64 0) := X2.out.cell 0
        have f2 := X2.out.frozen 0
        clear b2 X1 t1
        go_wp2_with fail
        have X3 := Lib.hid (X2.out.set_ 0 (.int .i64 (bits .xor .i64 (bits .xor .i64 (ctlBit sa 0) (ctlBit sb 0)) 1)))
        have t3 := t2.setCell (p := ⟨wr.heap.size, 0, none⟩) (Nat.le_refl _) (.int .i64 (bits .xor .i64 (bits .xor .i64 (ctlBit sa 0) (ctlBit sb 0)) 1))
        clear x2 f2 X2 t2
        refine (implControlBit_c _ _ _).mono ?_
        rintro e w4 ⟨rfl, b4⟩
        have X4 := Lib.hid (X3.out.below b4 X3.out.lt)
        have t4 := t3.trans (b4.mono t3.size)
        clear b4 X3 t3
        go_wp2_with fail
        refine (implControlBit_c _ _ _).mono ?_
        rintro e w5 ⟨rfl, b5⟩
        have X5 := Lib.hid (X4.out.below b5 X4.out.lt)
        have t5 := t4.trans (b5.mono t4.size)
        have x5 : w5.cell? ⟨wr.heap.size, 1, none⟩ = some (.int .i64 0) := X5.out.cell 1
        have f5 := X5.out.frozen 1
        clear b5 X4 t4
        go_wp2_with fail
        have X6 := Lib.hid (X5.out.set_ 1 (.int .i64 (bits .xor .i64 (ctlBit sa 1) (ctlBit sb 1))))
        have t6 := t5.setCell (p := ⟨wr.heap.size, 1, none⟩) (Nat.le_refl _) (.int .i64 (bits .xor .i64 (ctlBit sa 1) (ctlBit sb 1)))
        clear x5 f5 X5 t5
        generalize (w5.setCell ⟨wr.heap.size, 1, none⟩ (.int .i64 (bits .xor .i64 (ctlBit sa 1) (ctlBit sb 1)))) = w6 at *
        have KC : Hid (∀ W, Below w6.heap.size w6 W → W.cell? ⟨wr.heap.size, 0, none⟩ = some (.int .i64 (bits .xor .i64 (bits .xor .i64 (ctlBit sa 0) (ctlBit sb 0)) 1)) ∧ W.cell? ⟨wr.heap.size, 1, none⟩ = some (.int .i64 (bits .xor .i64 (ctlBit sa 1) (ctlBit sb 1)))) := Lib.hid (fun W hW => ⟨(X6.out.below hW X6.out.lt).cell 0, (X6.out.below hW X6.out.lt).cell 1⟩)
        have tL : Below w6.heap.size w6 w6.drew := (Below.refl _ _).drew
        have S1 : Hid (∀ W, Calls Try.prog 108 #[.int .i64 sa, .int .i64 1] W fun e w' => e = .returned (.int .i64 (childS sa 1)) ∧ Below W.heap.size W w') := Lib.hid (fun W => implChildSeed_c sa 1 W)
        have S2 : Hid (∀ W, Calls Try.prog 108 #[.int .i64 sb, .int .i64 1] W fun e w' => e = .returned (.int .i64 (childS sb 1)) ∧ Below W.heap.size W w') := Lib.hid (fun W => implChildSeed_c sb 1 W)
        have kc := KC.out _ tL
        go_region_held3 (fun w' => w'.cell? ⟨wr.heap.size, 0, none⟩ = some (.int .i64 (bits .xor .i64 (bits .xor .i64 (ctlBit sa 0) (ctlBit sb 0)) 1)) ∧ w'.cell? ⟨wr.heap.size, 1, none⟩ = some (.int .i64 (bits .xor .i64 (ctlBit sa 1) (ctlBit sb 1))))
          (first | (exact kc) | (exact KC.out _ (tL.alloc tL.size _)) | (exact KC.out _ (((tL.setCell (p := ⟨_, 0, none⟩) hq _).setCell (p := ⟨_, 1, none⟩) hq _).setCell (p := ⟨_, 2, none⟩) hq _)) | go_keep)
          (first
            | (go_at_call 108; ((with_reducible refine (S1.out _).mono ?_); rintro e w7 ⟨rfl, bc⟩; (first | (have tL := tL.trans (bc.mono tL.size)) | (have hq : w6.heap.size ≤ w6.heap.size := Nat.le_refl _; have tq := tL.alloc tL.size (.cells #[.int .i64 0, .int .i64 0, .int .i64 0] 116); have tL := tq.trans (bc.mono tq.size); have BC : Hid (Box w7 w6.heap.size 116 #[.int .i64 0, .int .i64 0, .int .i64 0]) := Lib.hid ((Box.new w6.drew 116 #[.int .i64 0, .int .i64 0, .int .i64 0]).below bc (by simp)); have y0 := BC.out.cell 0; have y1 := BC.out.cell 1; have y2 := BC.out.cell 2; have z0 := BC.out.frozen 0; have z1 := BC.out.frozen 1; have z2 := BC.out.frozen 2)); have kc := KC.out _ tL; clear bc))
            | (go_at_call 108; ((with_reducible refine (S2.out _).mono ?_); rintro e w8 ⟨rfl, bc⟩; (try (have BC := Lib.hid (BC.out.below bc BC.out.lt))); (first | (have tL := tL.trans (bc.mono tL.size)) | (have hq : w6.heap.size ≤ w7.heap.size := tL.size; have tq := tL.alloc tL.size (.cells #[.int .i64 0, .int .i64 0, .int .i64 0] 116); have tL := tq.trans (bc.mono tq.size); have BC := Lib.hid ((Box.new w7 116 #[.int .i64 0, .int .i64 0, .int .i64 0]).below bc (by simp)))); (try (have y0 := BC.out.cell 0; have y1 := BC.out.cell 1; have y2 := BC.out.cell 2; have z0 := BC.out.frozen 0; have z1 := BC.out.frozen 1; have z2 := BC.out.frozen 2)); have kc := KC.out _ tL; clear bc)))
        all_goals
          first
            | (have hBC : Hid (Box w8 w6.heap.size 116 #[.int .i64 0, .int .i64 0, .int .i64 0]) := BC; clear hBC; have BZ := Lib.hid (((BC.out.set_ 0 (.int .i64 (bits .xor .i64 (childS sa 1) (childS sb 1)))).set_ 1 (.int .i64 (bits .xor .i64 (bits .xor .i64 (ctlBit sa 0) (ctlBit sb 0)) 1))).set_ 2 (.int .i64 (bits .xor .i64 (ctlBit sa 1) (ctlBit sb 1)))); have tZ := ((tL.setCell (p := ⟨_, 0, none⟩) hq (.int .i64 (bits .xor .i64 (childS sa 1) (childS sb 1)))).setCell (p := ⟨_, 1, none⟩) hq (.int .i64 (bits .xor .i64 (bits .xor .i64 (ctlBit sa 0) (ctlBit sb 0)) 1))).setCell (p := ⟨_, 2, none⟩) hq (.int .i64 (bits .xor .i64 (ctlBit sa 1) (ctlBit sb 1))); have tW := Lib.hid (t6.trans (tZ.mono t6.size)); have hqw : wr.heap.size ≤ w6.heap.size := t6.size; clear tZ tL BC y0 y1 y2 z0 z1 z2 KC kc X6; generalize (((w8.setCell ⟨w6.heap.size, 0, none⟩ (.int .i64 (bits .xor .i64 (childS sa 1) (childS sb 1)))).setCell ⟨w6.heap.size, 1, none⟩ (.int .i64 (bits .xor .i64 (bits .xor .i64 (ctlBit sa 0) (ctlBit sb 0)) 1))).setCell ⟨w6.heap.size, 2, none⟩ (.int .i64 (bits .xor .i64 (ctlBit sa 1) (ctlBit sb 1)))) = w9 at *; have hgcw : wr.heap.size ≤ w6.heap.size := (by omega); generalize w6.heap.size = gc at BZ hgcw ⊢)
            | (have hBC : Hid (Box w8 w7.heap.size 116 #[.int .i64 0, .int .i64 0, .int .i64 0]) := BC; clear hBC; have BZ := Lib.hid (((BC.out.set_ 0 (.int .i64 (bits .xor .i64 (childS sa 1) (childS sb 1)))).set_ 1 (.int .i64 (bits .xor .i64 (bits .xor .i64 (ctlBit sa 0) (ctlBit sb 0)) 1))).set_ 2 (.int .i64 (bits .xor .i64 (ctlBit sa 1) (ctlBit sb 1)))); have tZ := ((tL.setCell (p := ⟨_, 0, none⟩) hq (.int .i64 (bits .xor .i64 (childS sa 1) (childS sb 1)))).setCell (p := ⟨_, 1, none⟩) hq (.int .i64 (bits .xor .i64 (bits .xor .i64 (ctlBit sa 0) (ctlBit sb 0)) 1))).setCell (p := ⟨_, 2, none⟩) hq (.int .i64 (bits .xor .i64 (ctlBit sa 1) (ctlBit sb 1))); have tW := Lib.hid (t6.trans (tZ.mono t6.size)); have hqw : wr.heap.size ≤ w6.heap.size := t6.size; clear tZ tL BC y0 y1 y2 z0 z1 z2 KC kc X6; generalize (((w8.setCell ⟨w7.heap.size, 0, none⟩ (.int .i64 (bits .xor .i64 (childS sa 1) (childS sb 1)))).setCell ⟨w7.heap.size, 1, none⟩ (.int .i64 (bits .xor .i64 (bits .xor .i64 (ctlBit sa 0) (ctlBit sb 0)) 1))).setCell ⟨w7.heap.size, 2, none⟩ (.int .i64 (bits .xor .i64 (ctlBit sa 1) (ctlBit sb 1)))) = w9 at *; have hgcw : wr.heap.size ≤ w7.heap.size := (by omega); generalize w7.heap.size = gc at BZ hgcw ⊢)
            | (have BZ := Lib.hid (Box.new w8 116 #[(.int .i64 (bits .xor .i64 (childS sa 1) (childS sb 1))), (.int .i64 (bits .xor .i64 (bits .xor .i64 (ctlBit sa 0) (ctlBit sb 0)) 1)), (.int .i64 (bits .xor .i64 (ctlBit sa 1) (ctlBit sb 1)))]); have tZ := tL.alloc tL.size (.cells #[(.int .i64 (bits .xor .i64 (childS sa 1) (childS sb 1))), (.int .i64 (bits .xor .i64 (bits .xor .i64 (ctlBit sa 0) (ctlBit sb 0)) 1)), (.int .i64 (bits .xor .i64 (ctlBit sa 1) (ctlBit sb 1)))] 116); have tW := Lib.hid (t6.trans (tZ.mono t6.size)); have hq8 := tL.size; have hqw : wr.heap.size ≤ w6.heap.size := t6.size; clear tZ tL KC kc X6; generalize w8.alloc (.cells #[(.int .i64 (bits .xor .i64 (childS sa 1) (childS sb 1))), (.int .i64 (bits .xor .i64 (bits .xor .i64 (ctlBit sa 0) (ctlBit sb 0)) 1)), (.int .i64 (bits .xor .i64 (ctlBit sa 1) (ctlBit sb 1)))] 116) = w9 at *; have hgcw : wr.heap.size ≤ w8.heap.size := (by omega); generalize w8.heap.size = gc at BZ hgcw ⊢)
          have HMa := Lib.hid (HM.out.below tW.out)
          have hgcl := BZ.out.lt
          clear tW HM
          have ca : w9.cell? ⟨w.heap.size + 1 + 1, 2, none⟩ = some va := HMa.out.a.cell 2
          have z0 : w9.cell? ⟨gc, 0, none⟩ = some (.int .i64 (bits .xor .i64 (childS sa 1) (childS sb 1))) := BZ.out.cell 0
          have z1 : w9.cell? ⟨gc, 1, none⟩ = some (.int .i64 (bits .xor .i64 (bits .xor .i64 (ctlBit sa 0) (ctlBit sb 0)) 1)) := BZ.out.cell 1
          have z2 : w9.cell? ⟨gc, 2, none⟩ = some (.int .i64 (bits .xor .i64 (ctlBit sa 1) (ctlBit sb 1))) := BZ.out.cell 2
          have hrow : ∀ q, q < gc → True := fun _ _ => trivial
          have hva : ∀ q, va.ownBlock = some q → q < wr.heap.size := VA.out
          have hvb : ∀ q, vb.ownBlock = some q → q < wr.heap.size := VB.out
          have hgw : w.heap.size + 4 ≤ wr.heap.size := HW4.out
          obtain ⟨Aa, la, ca', rfl⟩ := own_shape HMa.out.oa
          obtain ⟨Ab, lb, cb', rfl⟩ := own_shape HMa.out.ob
          clear hrow hva hvb hgw
          have i6 : i ≤ 1000000 := by omega
          go_wp2_with (first
            | (at_builtin; refine wpList_appC rfl (.tmp 94) (.tmp 96) rfl (.slice Aa la ca') i _ rfl (ownsC_at HMa.out.oa (fun q hq => Below.heap_alloc w9 _ q (HMa.out.oa.lt q hq).2)) w9.heap.size 1 _ _ _ rfl (Src_3 w9 _ _ _ _) i6 ?_; intro v10 w10 hown1 hg1 hat1; obtain ⟨A10, l10, c10, rfl⟩ := own_shape hown1; have ba10 := Box.grown (HMa.out.a.alloc _) hg1 (fun e => by have := HMa.out.ga _ e.symm; omega); have x10 : w10.cell? ⟨w.heap.size + 1 + 1, 2, none⟩ = some (.slice Aa la ca') := ba10.cell 2; have y10 : w10.frozen? ⟨w.heap.size + 1 + 1, 2, none⟩ = false := ba10.frozen 2; have bb11 := Lib.hid ((Box.grown (HMa.out.b.alloc _) hg1 (fun e => by have := HMa.out.ga _ e.symm; omega)).far (p := ⟨w.heap.size + 1 + 1, 2, none⟩) (by show w.heap.size + 3 ≠ w.heap.size + 1 + 1; omega) (.slice A10 l10 c10)); have cb : (w10.setCell ⟨w.heap.size + 1 + 1, 2, none⟩ (.slice A10 l10 c10)).cell? ⟨w.heap.size + 1 + 1 + 1, 2, none⟩ = some (.slice Ab lb cb') := bb11.out.cell 2; have BZ11 := Lib.hid ((Box.grown (BZ.out.alloc _) hg1 (fun e => by have := VA.out _ e.symm; omega)).far (p := ⟨w.heap.size + 1 + 1, 2, none⟩) (by show gc ≠ w.heap.size + 1 + 1; have := HW4.out; omega) (.slice A10 l10 c10)); have z0 := BZ11.out.cell 0; have z1 := BZ11.out.cell 1; have z2 := BZ11.out.cell 2; have hsz11 : (w10.setCell ⟨w.heap.size + 1 + 1, 2, none⟩ (.slice A10 l10 c10)).heap.size = w10.heap.size := (by simp [World.setCell]); have SR2 := Lib.hid (show Src ((w10.setCell ⟨w.heap.size + 1 + 1, 2, none⟩ (.slice A10 l10 c10)).alloc (.cells #[(.int .i64 (bits .xor .i64 (childS sa 1) (childS sb 1))), (.int .i64 (bits .xor .i64 (bits .xor .i64 (ctlBit sa 0) (ctlBit sb 0)) 1)), (.int .i64 (bits .xor .i64 (ctlBit sa 1) (ctlBit sb 1)))] 116)) (some ⟨w10.heap.size, 0, none⟩) 3 [(.int .i64 (bits .xor .i64 (childS sa 1) (childS sb 1))), (.int .i64 (bits .xor .i64 (bits .xor .i64 (ctlBit sa 0) (ctlBit sb 0)) 1)), (.int .i64 (bits .xor .i64 (ctlBit sa 1) (ctlBit sb 1)))] from (by have h3 := Src_3 (w10.setCell ⟨w.heap.size + 1 + 1, 2, none⟩ (.slice A10 l10 c10)) (.int .i64 (bits .xor .i64 (childS sa 1) (childS sb 1))) (.int .i64 (bits .xor .i64 (bits .xor .i64 (ctlBit sa 0) (ctlBit sb 0)) 1)) (.int .i64 (bits .xor .i64 (ctlBit sa 1) (ctlBit sb 1))) 116; rw [hsz11] at h3; exact h3)); have OB2 := Lib.hid (show ((w10.setCell ⟨w.heap.size + 1 + 1, 2, none⟩ (.slice A10 l10 c10)).alloc (.cells #[(.int .i64 (bits .xor .i64 (childS sa 1) (childS sb 1))), (.int .i64 (bits .xor .i64 (bits .xor .i64 (ctlBit sa 0) (ctlBit sb 0)) 1)), (.int .i64 (bits .xor .i64 (ctlBit sa 1) (ctlBit sb 1)))] 116)).ownsRow 0 116 3 (.slice Ab lb cb') i (cellsC (kcs ra rb p n i)) from ownsC_at HMa.out.ob (fun q hq => by
              have hql := (HMa.out.ob.lt q hq).2
              have hq4 := HMa.out.gb q hq
              have hs := hg1.size
              have hs9 : (w9.alloc (.cells #[(.int .i64 (bits .xor .i64 (childS sa 1) (childS sb 1))), (.int .i64 (bits .xor .i64 (bits .xor .i64 (ctlBit sa 0) (ctlBit sb 0)) 1)), (.int .i64 (bits .xor .i64 (ctlBit sa 1) (ctlBit sb 1)))] 116)).heap.size = w9.heap.size + 1 := by simp
              rw [Below.heap_alloc _ _ q (by rw [hsz11]; omega), Below.heap_setCell w10 _ _ q (by show q ≠ w.heap.size + 1 + 1; omega), hg1.block q (by omega) (fun e => HMa.out.ne q e.symm hq), Below.heap_alloc w9 _ q hql])); have G1 := Lib.hid (And.intro hown1 (And.intro hg1 hat1)); clear hown1 hg1 hat1 ba10 hsz11)
            | (at_builtin; refine wpList_appC rfl (.tmp 100) (.tmp 102) rfl (.slice Ab lb cb') i _ rfl OB2.out w10.heap.size 1 _ _ _ rfl SR2.out i6 ?_; intro v12 w12 hown2 hg2 hat2; obtain ⟨A12, l12, c12, rfl⟩ := own_shape hown2; have bb12 := Box.grown (bb11.out.alloc _) hg2 (fun e => by have := HMa.out.gb _ e.symm; omega); have x12 : w12.cell? ⟨w.heap.size + 1 + 1 + 1, 2, none⟩ = some (.slice Ab lb cb') := bb12.cell 2; have y12 : w12.frozen? ⟨w.heap.size + 1 + 1 + 1, 2, none⟩ = false := bb12.frozen 2; have BZ13 := Lib.hid ((Box.grown (BZ11.out.alloc _) hg2 (fun e => by have := VB.out _ e.symm; omega)).far (p := ⟨w.heap.size + 1 + 1 + 1, 2, none⟩) (by show gc ≠ w.heap.size + 1 + 1 + 1; have := HW4.out; omega) (.slice A12 l12 c12)); have z0 := BZ13.out.cell 0; have z1 := BZ13.out.cell 1; have z2 := BZ13.out.cell 2; have G2 := Lib.hid (And.intro hown2 (And.intro hg2 hat2)); clear hown2 hg2 hat2 bb12))
          have MK := mk_append (x := (bits .xor .i64 (childS sa 1) (childS sb 1), bits .xor .i64 (bits .xor .i64 (ctlBit sa 0) (ctlBit sb 0)) 1, bits .xor .i64 (ctlBit sa 1) (ctlBit sb 1))) HMa.out G1.out.1 G1.out.2.1 G1.out.2.2 G2.out.1 G2.out.2.1 G2.out.2.2 rfl
          have HM13 : Hid (MkAt 63 116 w ra rb (.slice A10 l10 c10) (.slice A12 l12 c12) (i + 1) (kcs ra rb p n i ++ [(bits .xor .i64 (childS sa 1) (childS sb 1), bits .xor .i64 (bits .xor .i64 (ctlBit sa 0) (ctlBit sb 0)) 1, bits .xor .i64 (ctlBit sa 1) (ctlBit sb 1))]) (w12.setCell ⟨w.heap.size + 1 + 1 + 1, 2, none⟩ (.slice A12 l12 c12))) := Lib.hid MK.1
          clear MK G1 G2 x10 y10 x12 y12 ca cb OB2 SR2 BZ11 bb11 BZ HMa VA VB
          refine (implNode_c sa ta 0 _ _ _ _).mono ?_
          rintro e w14 ⟨rfl, b14⟩
          have BZ14 := Lib.hid (BZ13.out.below b14 BZ13.out.lt)
          have HM14 := Lib.hid (HM13.out.below b14)
          have z0 := BZ14.out.cell 0
          have z1 := BZ14.out.cell 1
          have z2 := BZ14.out.cell 2
          clear b14 HM13 BZ13
          go_wp2_with fail
          refine (implNode_c sb tb 0 _ _ _ _).mono ?_
          rintro e w15 ⟨rfl, b15⟩
          have HM15 := Lib.hid (HM14.out.below b15)
          clear b15 HM14 BZ14 z0 z1 z2
          have hC : mkCorr sa sb 0 = (bits .xor .i64 (childS sa 1) (childS sb 1), bits .xor .i64 (bits .xor .i64 (ctlBit sa 0) (ctlBit sb 0)) 1, bits .xor .i64 (ctlBit sa 1) (ctlBit sb 1)) := by simp [mkCorr, xorI]
          have HC := Lib.hid hC
          have HMF : Hid (MkAt 63 116 w ra rb (.slice A10 l10 c10) (.slice A12 l12 c12) (i + 1) (kcs ra rb p n (i + 1)) w15) := Lib.hid (by
            have e : Go.Proofs.Ytceogegjghmonaa.kc ra rb p n i = (bits .xor .i64 (childS sa 1) (childS sb 1), bits .xor .i64 (bits .xor .i64 (ctlBit sa 0) (ctlBit sb 0)) 1, bits .xor .i64 (ctlBit sa 1) (ctlBit sb 1)) := by unfold Go.Proofs.Ytceogegjghmonaa.kc; rw [HS.out, HD.out]; exact hC
            rw [kcs_succ, e]
            exact HM15.out)
          have HSF : Hid (kst ra rb p n (i + 1) = (KSt.mk sa ta sb tb).next 0) := Lib.hid (by show (kst ra rb p n i).next (sideAt p n i) = _; rw [HS.out, HD.out])
          clear hC HM15
          go_wp2
          go_roundw
          case rel => exact ⟨i + 1, _, _, (KSt.mk sa ta sb tb).next 0, by omega, by first | go_num | (congr 1; omega), by show _ = Value.int .i64 (nodeS sa ta 0 (mkCorr sa sb 0)); rw [HC.out], by show _ = Value.int .i64 (nodeT sa ta 0 (mkCorr sa sb 0)); rw [HC.out], by show _ = Value.int .i64 (nodeS sb tb 0 (mkCorr sa sb 0)); rw [HC.out], by show _ = Value.int .i64 (nodeT sb tb 0 (mkCorr sa sb 0)); rw [HC.out], HSF, HMF⟩
          case measure => simp [intOf]; omega
      · have hz : (1 : Int) - 1 = 0 := rfl
        rw [hz]
        have VA := Lib.hid (fun q hq => (HM.out.oa.lt q hq).2)
        have VB := Lib.hid (fun q hq => (HM.out.ob.lt q hq).2)
        have HW4 : Hid (w.heap.size + 4 ≤ wr.heap.size) := Lib.hid (by have := HM.out.b.lt; omega)
        have bA := below_alloc wr (.cells #[.int .i64 0, .int .i64 0] 114)
        have X0 := Lib.hid (Box.new wr 114 #[.int .i64 0, .int .i64 0])
        refine (implControlBit_c _ _ _).mono ?_
        rintro e w1 ⟨rfl, b1⟩
        have X1 := Lib.hid (X0.out.below b1 X0.out.lt)
        have t1 := bA.trans (b1.mono (by simp))
        clear b1 X0 bA
        go_wp2_with fail
        refine (implControlBit_c _ _ _).mono ?_
        rintro e w2 ⟨rfl, b2⟩
        have X2 := Lib.hid (X1.out.below b2 X1.out.lt)
        have t2 := t1.trans (b2.mono t1.size)
        have x2 : w2.cell? ⟨wr.heap.size, 1, none⟩ = some (.int .i64 0) := X2.out.cell 1
        have f2 := X2.out.frozen 1
        clear b2 X1 t1
        go_wp2_with fail
        have X3 := Lib.hid (X2.out.set_ 1 (.int .i64 (bits .xor .i64 (bits .xor .i64 (ctlBit sa 1) (ctlBit sb 1)) 1)))
        have t3 := t2.setCell (p := ⟨wr.heap.size, 1, none⟩) (Nat.le_refl _) (.int .i64 (bits .xor .i64 (bits .xor .i64 (ctlBit sa 1) (ctlBit sb 1)) 1))
        clear x2 f2 X2 t2
        refine (implControlBit_c _ _ _).mono ?_
        rintro e w4 ⟨rfl, b4⟩
        have X4 := Lib.hid (X3.out.below b4 X3.out.lt)
        have t4 := t3.trans (b4.mono t3.size)
        clear b4 X3 t3
        go_wp2_with fail
        refine (implControlBit_c _ _ _).mono ?_
        rintro e w5 ⟨rfl, b5⟩
        have X5 := Lib.hid (X4.out.below b5 X4.out.lt)
        have t5 := t4.trans (b5.mono t4.size)
        have x5 : w5.cell? ⟨wr.heap.size, 0, none⟩ = some (.int .i64 0) := X5.out.cell 0
        have f5 := X5.out.frozen 0
        clear b5 X4 t4
        go_wp2_with fail
        have X6 := Lib.hid (X5.out.set_ 0 (.int .i64 (bits .xor .i64 (ctlBit sa 0) (ctlBit sb 0))))
        have t6 := t5.setCell (p := ⟨wr.heap.size, 0, none⟩) (Nat.le_refl _) (.int .i64 (bits .xor .i64 (ctlBit sa 0) (ctlBit sb 0)))
        clear x5 f5 X5 t5
        generalize (w5.setCell ⟨wr.heap.size, 0, none⟩ (.int .i64 (bits .xor .i64 (ctlBit sa 0) (ctlBit sb 0)))) = w6 at *
        have KC : Hid (∀ W, Below w6.heap.size w6 W → W.cell? ⟨wr.heap.size, 0, none⟩ = some (.int .i64 (bits .xor .i64 (ctlBit sa 0) (ctlBit sb 0))) ∧ W.cell? ⟨wr.heap.size, 1, none⟩ = some (.int .i64 (bits .xor .i64 (bits .xor .i64 (ctlBit sa 1) (ctlBit sb 1)) 1))) := Lib.hid (fun W hW => ⟨(X6.out.below hW X6.out.lt).cell 0, (X6.out.below hW X6.out.lt).cell 1⟩)
        have tL : Below w6.heap.size w6 w6.drew := (Below.refl _ _).drew
        have S1 : Hid (∀ W, Calls Try.prog 108 #[.int .i64 sa, .int .i64 0] W fun e w' => e = .returned (.int .i64 (childS sa 0)) ∧ Below W.heap.size W w') := Lib.hid (fun W => implChildSeed_c sa 0 W)
        have S2 : Hid (∀ W, Calls Try.prog 108 #[.int .i64 sb, .int .i64 0] W fun e w' => e = .returned (.int .i64 (childS sb 0)) ∧ Below W.heap.size W w') := Lib.hid (fun W => implChildSeed_c sb 0 W)
        have kc := KC.out _ tL
        go_region_held3 (fun w' => w'.cell? ⟨wr.heap.size, 0, none⟩ = some (.int .i64 (bits .xor .i64 (ctlBit sa 0) (ctlBit sb 0))) ∧ w'.cell? ⟨wr.heap.size, 1, none⟩ = some (.int .i64 (bits .xor .i64 (bits .xor .i64 (ctlBit sa 1) (ctlBit sb 1)) 1)))
          (first | (exact kc) | (exact KC.out _ (tL.alloc tL.size _)) | (exact KC.out _ (((tL.setCell (p := ⟨_, 0, none⟩) hq _).setCell (p := ⟨_, 1, none⟩) hq _).setCell (p := ⟨_, 2, none⟩) hq _)) | go_keep)
          (first
            | (go_at_call 108; ((with_reducible refine (S1.out _).mono ?_); rintro e w7 ⟨rfl, bc⟩; (first | (have tL := tL.trans (bc.mono tL.size)) | (have hq : w6.heap.size ≤ w6.heap.size := Nat.le_refl _; have tq := tL.alloc tL.size (.cells #[.int .i64 0, .int .i64 0, .int .i64 0] 116); have tL := tq.trans (bc.mono tq.size); have BC : Hid (Box w7 w6.heap.size 116 #[.int .i64 0, .int .i64 0, .int .i64 0]) := Lib.hid ((Box.new w6.drew 116 #[.int .i64 0, .int .i64 0, .int .i64 0]).below bc (by simp)); have y0 := BC.out.cell 0; have y1 := BC.out.cell 1; have y2 := BC.out.cell 2; have z0 := BC.out.frozen 0; have z1 := BC.out.frozen 1; have z2 := BC.out.frozen 2)); have kc := KC.out _ tL; clear bc))
            | (go_at_call 108; ((with_reducible refine (S2.out _).mono ?_); rintro e w8 ⟨rfl, bc⟩; (try (have BC := Lib.hid (BC.out.below bc BC.out.lt))); (first | (have tL := tL.trans (bc.mono tL.size)) | (have hq : w6.heap.size ≤ w7.heap.size := tL.size; have tq := tL.alloc tL.size (.cells #[.int .i64 0, .int .i64 0, .int .i64 0] 116); have tL := tq.trans (bc.mono tq.size); have BC := Lib.hid ((Box.new w7 116 #[.int .i64 0, .int .i64 0, .int .i64 0]).below bc (by simp)))); (try (have y0 := BC.out.cell 0; have y1 := BC.out.cell 1; have y2 := BC.out.cell 2; have z0 := BC.out.frozen 0; have z1 := BC.out.frozen 1; have z2 := BC.out.frozen 2)); have kc := KC.out _ tL; clear bc)))
        all_goals
          first
            | (have hBC : Hid (Box w8 w6.heap.size 116 #[.int .i64 0, .int .i64 0, .int .i64 0]) := BC; clear hBC; have BZ := Lib.hid (((BC.out.set_ 0 (.int .i64 (bits .xor .i64 (childS sa 0) (childS sb 0)))).set_ 1 (.int .i64 (bits .xor .i64 (ctlBit sa 0) (ctlBit sb 0)))).set_ 2 (.int .i64 (bits .xor .i64 (bits .xor .i64 (ctlBit sa 1) (ctlBit sb 1)) 1))); have tZ := ((tL.setCell (p := ⟨_, 0, none⟩) hq (.int .i64 (bits .xor .i64 (childS sa 0) (childS sb 0)))).setCell (p := ⟨_, 1, none⟩) hq (.int .i64 (bits .xor .i64 (ctlBit sa 0) (ctlBit sb 0)))).setCell (p := ⟨_, 2, none⟩) hq (.int .i64 (bits .xor .i64 (bits .xor .i64 (ctlBit sa 1) (ctlBit sb 1)) 1)); have tW := Lib.hid (t6.trans (tZ.mono t6.size)); have hqw : wr.heap.size ≤ w6.heap.size := t6.size; clear tZ tL BC y0 y1 y2 z0 z1 z2 KC kc X6; generalize (((w8.setCell ⟨w6.heap.size, 0, none⟩ (.int .i64 (bits .xor .i64 (childS sa 0) (childS sb 0)))).setCell ⟨w6.heap.size, 1, none⟩ (.int .i64 (bits .xor .i64 (ctlBit sa 0) (ctlBit sb 0)))).setCell ⟨w6.heap.size, 2, none⟩ (.int .i64 (bits .xor .i64 (bits .xor .i64 (ctlBit sa 1) (ctlBit sb 1)) 1))) = w9 at *; have hgcw : wr.heap.size ≤ w6.heap.size := (by omega); generalize w6.heap.size = gc at BZ hgcw ⊢)
            | (have hBC : Hid (Box w8 w7.heap.size 116 #[.int .i64 0, .int .i64 0, .int .i64 0]) := BC; clear hBC; have BZ := Lib.hid (((BC.out.set_ 0 (.int .i64 (bits .xor .i64 (childS sa 0) (childS sb 0)))).set_ 1 (.int .i64 (bits .xor .i64 (ctlBit sa 0) (ctlBit sb 0)))).set_ 2 (.int .i64 (bits .xor .i64 (bits .xor .i64 (ctlBit sa 1) (ctlBit sb 1)) 1))); have tZ := ((tL.setCell (p := ⟨_, 0, none⟩) hq (.int .i64 (bits .xor .i64 (childS sa 0) (childS sb 0)))).setCell (p := ⟨_, 1, none⟩) hq (.int .i64 (bits .xor .i64 (ctlBit sa 0) (ctlBit sb 0)))).setCell (p := ⟨_, 2, none⟩) hq (.int .i64 (bits .xor .i64 (bits .xor .i64 (ctlBit sa 1) (ctlBit sb 1)) 1)); have tW := Lib.hid (t6.trans (tZ.mono t6.size)); have hqw : wr.heap.size ≤ w6.heap.size := t6.size; clear tZ tL BC y0 y1 y2 z0 z1 z2 KC kc X6; generalize (((w8.setCell ⟨w7.heap.size, 0, none⟩ (.int .i64 (bits .xor .i64 (childS sa 0) (childS sb 0)))).setCell ⟨w7.heap.size, 1, none⟩ (.int .i64 (bits .xor .i64 (ctlBit sa 0) (ctlBit sb 0)))).setCell ⟨w7.heap.size, 2, none⟩ (.int .i64 (bits .xor .i64 (bits .xor .i64 (ctlBit sa 1) (ctlBit sb 1)) 1))) = w9 at *; have hgcw : wr.heap.size ≤ w7.heap.size := (by omega); generalize w7.heap.size = gc at BZ hgcw ⊢)
            | (have BZ := Lib.hid (Box.new w8 116 #[(.int .i64 (bits .xor .i64 (childS sa 0) (childS sb 0))), (.int .i64 (bits .xor .i64 (ctlBit sa 0) (ctlBit sb 0))), (.int .i64 (bits .xor .i64 (bits .xor .i64 (ctlBit sa 1) (ctlBit sb 1)) 1))]); have tZ := tL.alloc tL.size (.cells #[(.int .i64 (bits .xor .i64 (childS sa 0) (childS sb 0))), (.int .i64 (bits .xor .i64 (ctlBit sa 0) (ctlBit sb 0))), (.int .i64 (bits .xor .i64 (bits .xor .i64 (ctlBit sa 1) (ctlBit sb 1)) 1))] 116); have tW := Lib.hid (t6.trans (tZ.mono t6.size)); have hq8 := tL.size; have hqw : wr.heap.size ≤ w6.heap.size := t6.size; clear tZ tL KC kc X6; generalize w8.alloc (.cells #[(.int .i64 (bits .xor .i64 (childS sa 0) (childS sb 0))), (.int .i64 (bits .xor .i64 (ctlBit sa 0) (ctlBit sb 0))), (.int .i64 (bits .xor .i64 (bits .xor .i64 (ctlBit sa 1) (ctlBit sb 1)) 1))] 116) = w9 at *; have hgcw : wr.heap.size ≤ w8.heap.size := (by omega); generalize w8.heap.size = gc at BZ hgcw ⊢)
          have HMa := Lib.hid (HM.out.below tW.out)
          have hgcl := BZ.out.lt
          clear tW HM
          have ca : w9.cell? ⟨w.heap.size + 1 + 1, 2, none⟩ = some va := HMa.out.a.cell 2
          have z0 : w9.cell? ⟨gc, 0, none⟩ = some (.int .i64 (bits .xor .i64 (childS sa 0) (childS sb 0))) := BZ.out.cell 0
          have z1 : w9.cell? ⟨gc, 1, none⟩ = some (.int .i64 (bits .xor .i64 (ctlBit sa 0) (ctlBit sb 0))) := BZ.out.cell 1
          have z2 : w9.cell? ⟨gc, 2, none⟩ = some (.int .i64 (bits .xor .i64 (bits .xor .i64 (ctlBit sa 1) (ctlBit sb 1)) 1)) := BZ.out.cell 2
          have hrow : ∀ q, q < gc → True := fun _ _ => trivial
          have hva : ∀ q, va.ownBlock = some q → q < wr.heap.size := VA.out
          have hvb : ∀ q, vb.ownBlock = some q → q < wr.heap.size := VB.out
          have hgw : w.heap.size + 4 ≤ wr.heap.size := HW4.out
          obtain ⟨Aa, la, ca', rfl⟩ := own_shape HMa.out.oa
          obtain ⟨Ab, lb, cb', rfl⟩ := own_shape HMa.out.ob
          clear hrow hva hvb hgw
          have i6 : i ≤ 1000000 := by omega
          go_wp2_with (first
            | (at_builtin; refine wpList_appC rfl (.tmp 94) (.tmp 96) rfl (.slice Aa la ca') i _ rfl (ownsC_at HMa.out.oa (fun q hq => Below.heap_alloc w9 _ q (HMa.out.oa.lt q hq).2)) w9.heap.size 1 _ _ _ rfl (Src_3 w9 _ _ _ _) i6 ?_; intro v10 w10 hown1 hg1 hat1; obtain ⟨A10, l10, c10, rfl⟩ := own_shape hown1; have ba10 := Box.grown (HMa.out.a.alloc _) hg1 (fun e => by have := HMa.out.ga _ e.symm; omega); have x10 : w10.cell? ⟨w.heap.size + 1 + 1, 2, none⟩ = some (.slice Aa la ca') := ba10.cell 2; have y10 : w10.frozen? ⟨w.heap.size + 1 + 1, 2, none⟩ = false := ba10.frozen 2; have bb11 := Lib.hid ((Box.grown (HMa.out.b.alloc _) hg1 (fun e => by have := HMa.out.ga _ e.symm; omega)).far (p := ⟨w.heap.size + 1 + 1, 2, none⟩) (by show w.heap.size + 3 ≠ w.heap.size + 1 + 1; omega) (.slice A10 l10 c10)); have cb : (w10.setCell ⟨w.heap.size + 1 + 1, 2, none⟩ (.slice A10 l10 c10)).cell? ⟨w.heap.size + 1 + 1 + 1, 2, none⟩ = some (.slice Ab lb cb') := bb11.out.cell 2; have BZ11 := Lib.hid ((Box.grown (BZ.out.alloc _) hg1 (fun e => by have := VA.out _ e.symm; omega)).far (p := ⟨w.heap.size + 1 + 1, 2, none⟩) (by show gc ≠ w.heap.size + 1 + 1; have := HW4.out; omega) (.slice A10 l10 c10)); have z0 := BZ11.out.cell 0; have z1 := BZ11.out.cell 1; have z2 := BZ11.out.cell 2; have hsz11 : (w10.setCell ⟨w.heap.size + 1 + 1, 2, none⟩ (.slice A10 l10 c10)).heap.size = w10.heap.size := (by simp [World.setCell]); have SR2 := Lib.hid (show Src ((w10.setCell ⟨w.heap.size + 1 + 1, 2, none⟩ (.slice A10 l10 c10)).alloc (.cells #[(.int .i64 (bits .xor .i64 (childS sa 0) (childS sb 0))), (.int .i64 (bits .xor .i64 (ctlBit sa 0) (ctlBit sb 0))), (.int .i64 (bits .xor .i64 (bits .xor .i64 (ctlBit sa 1) (ctlBit sb 1)) 1))] 116)) (some ⟨w10.heap.size, 0, none⟩) 3 [(.int .i64 (bits .xor .i64 (childS sa 0) (childS sb 0))), (.int .i64 (bits .xor .i64 (ctlBit sa 0) (ctlBit sb 0))), (.int .i64 (bits .xor .i64 (bits .xor .i64 (ctlBit sa 1) (ctlBit sb 1)) 1))] from (by have h3 := Src_3 (w10.setCell ⟨w.heap.size + 1 + 1, 2, none⟩ (.slice A10 l10 c10)) (.int .i64 (bits .xor .i64 (childS sa 0) (childS sb 0))) (.int .i64 (bits .xor .i64 (ctlBit sa 0) (ctlBit sb 0))) (.int .i64 (bits .xor .i64 (bits .xor .i64 (ctlBit sa 1) (ctlBit sb 1)) 1)) 116; rw [hsz11] at h3; exact h3)); have OB2 := Lib.hid (show ((w10.setCell ⟨w.heap.size + 1 + 1, 2, none⟩ (.slice A10 l10 c10)).alloc (.cells #[(.int .i64 (bits .xor .i64 (childS sa 0) (childS sb 0))), (.int .i64 (bits .xor .i64 (ctlBit sa 0) (ctlBit sb 0))), (.int .i64 (bits .xor .i64 (bits .xor .i64 (ctlBit sa 1) (ctlBit sb 1)) 1))] 116)).ownsRow 0 116 3 (.slice Ab lb cb') i (cellsC (kcs ra rb p n i)) from ownsC_at HMa.out.ob (fun q hq => by
              have hql := (HMa.out.ob.lt q hq).2
              have hq4 := HMa.out.gb q hq
              have hs := hg1.size
              have hs9 : (w9.alloc (.cells #[(.int .i64 (bits .xor .i64 (childS sa 0) (childS sb 0))), (.int .i64 (bits .xor .i64 (ctlBit sa 0) (ctlBit sb 0))), (.int .i64 (bits .xor .i64 (bits .xor .i64 (ctlBit sa 1) (ctlBit sb 1)) 1))] 116)).heap.size = w9.heap.size + 1 := by simp
              rw [Below.heap_alloc _ _ q (by rw [hsz11]; omega), Below.heap_setCell w10 _ _ q (by show q ≠ w.heap.size + 1 + 1; omega), hg1.block q (by omega) (fun e => HMa.out.ne q e.symm hq), Below.heap_alloc w9 _ q hql])); have G1 := Lib.hid (And.intro hown1 (And.intro hg1 hat1)); clear hown1 hg1 hat1 ba10 hsz11)
            | (at_builtin; refine wpList_appC rfl (.tmp 100) (.tmp 102) rfl (.slice Ab lb cb') i _ rfl OB2.out w10.heap.size 1 _ _ _ rfl SR2.out i6 ?_; intro v12 w12 hown2 hg2 hat2; obtain ⟨A12, l12, c12, rfl⟩ := own_shape hown2; have bb12 := Box.grown (bb11.out.alloc _) hg2 (fun e => by have := HMa.out.gb _ e.symm; omega); have x12 : w12.cell? ⟨w.heap.size + 1 + 1 + 1, 2, none⟩ = some (.slice Ab lb cb') := bb12.cell 2; have y12 : w12.frozen? ⟨w.heap.size + 1 + 1 + 1, 2, none⟩ = false := bb12.frozen 2; have BZ13 := Lib.hid ((Box.grown (BZ11.out.alloc _) hg2 (fun e => by have := VB.out _ e.symm; omega)).far (p := ⟨w.heap.size + 1 + 1 + 1, 2, none⟩) (by show gc ≠ w.heap.size + 1 + 1 + 1; have := HW4.out; omega) (.slice A12 l12 c12)); have z0 := BZ13.out.cell 0; have z1 := BZ13.out.cell 1; have z2 := BZ13.out.cell 2; have G2 := Lib.hid (And.intro hown2 (And.intro hg2 hat2)); clear hown2 hg2 hat2 bb12))
          have MK := mk_append (x := (bits .xor .i64 (childS sa 0) (childS sb 0), bits .xor .i64 (ctlBit sa 0) (ctlBit sb 0), bits .xor .i64 (bits .xor .i64 (ctlBit sa 1) (ctlBit sb 1)) 1)) HMa.out G1.out.1 G1.out.2.1 G1.out.2.2 G2.out.1 G2.out.2.1 G2.out.2.2 rfl
          have HM13 : Hid (MkAt 63 116 w ra rb (.slice A10 l10 c10) (.slice A12 l12 c12) (i + 1) (kcs ra rb p n i ++ [(bits .xor .i64 (childS sa 0) (childS sb 0), bits .xor .i64 (ctlBit sa 0) (ctlBit sb 0), bits .xor .i64 (bits .xor .i64 (ctlBit sa 1) (ctlBit sb 1)) 1)]) (w12.setCell ⟨w.heap.size + 1 + 1 + 1, 2, none⟩ (.slice A12 l12 c12))) := Lib.hid MK.1
          clear MK G1 G2 x10 y10 x12 y12 ca cb OB2 SR2 BZ11 bb11 BZ HMa VA VB
          refine (implNode_c sa ta 1 _ _ _ _).mono ?_
          rintro e w14 ⟨rfl, b14⟩
          have BZ14 := Lib.hid (BZ13.out.below b14 BZ13.out.lt)
          have HM14 := Lib.hid (HM13.out.below b14)
          have z0 := BZ14.out.cell 0
          have z1 := BZ14.out.cell 1
          have z2 := BZ14.out.cell 2
          clear b14 HM13 BZ13
          go_wp2_with fail
          refine (implNode_c sb tb 1 _ _ _ _).mono ?_
          rintro e w15 ⟨rfl, b15⟩
          have HM15 := Lib.hid (HM14.out.below b15)
          clear b15 HM14 BZ14 z0 z1 z2
          have hC : mkCorr sa sb 1 = (bits .xor .i64 (childS sa 0) (childS sb 0), bits .xor .i64 (ctlBit sa 0) (ctlBit sb 0), bits .xor .i64 (bits .xor .i64 (ctlBit sa 1) (ctlBit sb 1)) 1) := by simp [mkCorr, xorI]
          have HC := Lib.hid hC
          have HMF : Hid (MkAt 63 116 w ra rb (.slice A10 l10 c10) (.slice A12 l12 c12) (i + 1) (kcs ra rb p n (i + 1)) w15) := Lib.hid (by
            have e : Go.Proofs.Ytceogegjghmonaa.kc ra rb p n i = (bits .xor .i64 (childS sa 0) (childS sb 0), bits .xor .i64 (ctlBit sa 0) (ctlBit sb 0), bits .xor .i64 (bits .xor .i64 (ctlBit sa 1) (ctlBit sb 1)) 1) := by unfold Go.Proofs.Ytceogegjghmonaa.kc; rw [HS.out, HD.out]; exact hC
            rw [kcs_succ, e]
            exact HM15.out)
          have HSF : Hid (kst ra rb p n (i + 1) = (KSt.mk sa ta sb tb).next 1) := Lib.hid (by show (kst ra rb p n i).next (sideAt p n i) = _; rw [HS.out, HD.out])
          clear hC HM15
          go_wp2
          go_roundw
          case rel => exact ⟨i + 1, _, _, (KSt.mk sa ta sb tb).next 1, by omega, by first | go_num | (congr 1; omega), by show _ = Value.int .i64 (nodeS sa ta 1 (mkCorr sa sb 1)); rw [HC.out], by show _ = Value.int .i64 (nodeT sa ta 1 (mkCorr sa sb 1)); rw [HC.out], by show _ = Value.int .i64 (nodeS sb tb 1 (mkCorr sa sb 1)); rw [HC.out], by show _ = Value.int .i64 (nodeT sb tb 1 (mkCorr sa sb 1)); rw [HC.out], HSF, HMF⟩
          case measure => simp [intOf]; omega
    · obtain rfl : n = i := by omega
      have z1 : ((n : Int) - 1 - (n : Int)) = -1 := by omega
      rw [z1]
      have MB := Lib.hid HM.out.bel
      obtain ⟨Aa, la, ca', rfl⟩ := own_shape HM.out.oa
      obtain ⟨Ab, lb, cb', rfl⟩ := own_shape HM.out.ob
      have KC : Hid (∀ W, Chg w.heap.size (w.heap.size + 2) wr W → (W.cell? ⟨w.heap.size + 1 + 1, 0, none⟩ = some (.int .i64 ra) ∧ W.cell? ⟨w.heap.size + 1 + 1, 1, none⟩ = some (.int .i64 0) ∧ W.cell? ⟨w.heap.size + 1 + 1, 2, none⟩ = some (.slice Aa la ca')) ∧ W.cell? ⟨w.heap.size + 1 + 1 + 1, 0, none⟩ = some (.int .i64 rb) ∧ W.cell? ⟨w.heap.size + 1 + 1 + 1, 1, none⟩ = some (.int .i64 1) ∧ W.cell? ⟨w.heap.size + 1 + 1 + 1, 2, none⟩ = some (.slice Ab lb cb')) := Lib.hid (fun W hW => by
        have b1 : Box W (w.heap.size + 2) 63 #[.int .i64 ra, .int .i64 0, .slice Aa la ca'] := (hW.block _ HM.out.a.lt (by omega)).trans HM.out.a
        have b2 : Box W (w.heap.size + 3) 63 #[.int .i64 rb, .int .i64 1, .slice Ab lb cb'] := (hW.block _ HM.out.b.lt (by omega)).trans HM.out.b
        exact ⟨⟨b1.cell 0, b1.cell 1, b1.cell 2⟩, b2.cell 0, b2.cell 1, b2.cell 2⟩)
      have c0 : Chg w.heap.size (w.heap.size + 2) wr wr.drew := (Chg.refl _ _ wr).drewN 1
      have hA : w.heap.size < w.heap.size + 2 := by omega
      have hB : w.heap.size + 1 < w.heap.size + 2 := by omega
      have hB2 : w.heap.size ≤ w.heap.size + 1 := by omega
      have b1 := (((Chg.refl w.heap.size (w.heap.size + 2) wr).setCell (p := ⟨w.heap.size, 0, none⟩) (Nat.le_refl _) hA (.int .i64 ra)).setCell (p := ⟨w.heap.size, 1, none⟩) (Nat.le_refl _) hA (.int .i64 0)).setCell (p := ⟨w.heap.size, 2, none⟩) (Nat.le_refl _) hA (.slice Aa la ca')
      have b2 := ((b1.setCell (p := ⟨w.heap.size + 1, 0, none⟩) hB2 hB (.int .i64 rb)).setCell (p := ⟨w.heap.size + 1, 1, none⟩) hB2 hB (.int .i64 1)).setCell (p := ⟨w.heap.size + 1, 2, none⟩) hB2 hB (.slice Ab lb cb')
      have d1 : Chg w.heap.size (w.heap.size + 2) wr (((wr.setCell ⟨w.heap.size, 0, none⟩ (.int .i64 ra)).setCell ⟨w.heap.size, 1, none⟩ (.int .i64 0)).setCell ⟨w.heap.size, 2, none⟩ (.slice Aa la ca')).drew := b1.drewN 1
      have d2 : Chg w.heap.size (w.heap.size + 2) wr ((((((wr.setCell ⟨w.heap.size, 0, none⟩ (.int .i64 ra)).setCell ⟨w.heap.size, 1, none⟩ (.int .i64 0)).setCell ⟨w.heap.size, 2, none⟩ (.slice Aa la ca')).setCell ⟨w.heap.size + 1, 0, none⟩ (.int .i64 rb)).setCell ⟨w.heap.size + 1, 1, none⟩ (.int .i64 1)).setCell ⟨w.heap.size + 1, 2, none⟩ (.slice Ab lb cb')).drew := b2.drewN 1
      have k0 := KC.out _ c0
      have k1 := Lib.hid (KC.out _ d1)
      have k2 := Lib.hid (KC.out _ d2)
      have R1 := HM.out.r1
      have R2 := HM.out.r2
      have x0 : wr.cell? ⟨w.heap.size, 0, none⟩ = some (.int .i64 0) := R1.cell 0
      have x1 : wr.cell? ⟨w.heap.size, 1, none⟩ = some (.int .i64 0) := R1.cell 1
      have x2 : wr.cell? ⟨w.heap.size, 2, none⟩ = some (.slice none 0 0) := R1.cell 2
      have y0 := R1.frozen 0
      have y1 := R1.frozen 1
      have y2 := R1.frozen 2
      have xd0 : wr.drew.cell? ⟨w.heap.size, 0, none⟩ = some (.int .i64 0) := R1.cell 0
      have yd0 : wr.drew.frozen? ⟨w.heap.size, 0, none⟩ = false := R1.frozen 0
      have u0 : wr.cell? ⟨w.heap.size + 1, 0, none⟩ = some (.int .i64 0) := R2.cell 0
      have u1 : wr.cell? ⟨w.heap.size + 1, 1, none⟩ = some (.int .i64 0) := R2.cell 1
      have u2 : wr.cell? ⟨w.heap.size + 1, 2, none⟩ = some (.slice none 0 0) := R2.cell 2
      have v0 := R2.frozen 0
      have v1 := R2.frozen 1
      have v2 := R2.frozen 2
      have R2' := ((R2.far (p := ⟨w.heap.size, 0, none⟩) (by show w.heap.size + 1 ≠ w.heap.size; omega) (.int .i64 ra)).far (p := ⟨w.heap.size, 1, none⟩) (by show w.heap.size + 1 ≠ w.heap.size; omega) (.int .i64 0)).far (p := ⟨w.heap.size, 2, none⟩) (by show w.heap.size + 1 ≠ w.heap.size; omega) (.slice Aa la ca')
      have E1 := ((((((R1.set_ 0 (.int .i64 ra)).set_ 1 (.int .i64 0)).set_ 2 (.slice Aa la ca')).far (p := ⟨w.heap.size + 1, 0, none⟩) (by show w.heap.size ≠ w.heap.size + 1; omega) (.int .i64 rb)).far (p := ⟨w.heap.size + 1, 1, none⟩) (by show w.heap.size ≠ w.heap.size + 1; omega) (.int .i64 1)).far (p := ⟨w.heap.size + 1, 2, none⟩) (by show w.heap.size ≠ w.heap.size + 1; omega) (.slice Ab lb cb'))
      have E2 := ((R2'.set_ 0 (.int .i64 rb)).set_ 1 (.int .i64 1)).set_ 2 (.slice Ab lb cb')
      rw [set3] at E1 E2
      have EE1 : Hid (Box ((((((wr.setCell ⟨w.heap.size, 0, none⟩ (.int .i64 ra)).setCell ⟨w.heap.size, 1, none⟩ (.int .i64 0)).setCell ⟨w.heap.size, 2, none⟩ (.slice Aa la ca')).setCell ⟨w.heap.size + 1, 0, none⟩ (.int .i64 rb)).setCell ⟨w.heap.size + 1, 1, none⟩ (.int .i64 1)).setCell ⟨w.heap.size + 1, 2, none⟩ (.slice Ab lb cb')).drew w.heap.size 63 #[.int .i64 ra, .int .i64 0, .slice Aa la ca']) := Lib.hid (boxD E1)
      have EE2 : Hid (Box ((((((wr.setCell ⟨w.heap.size, 0, none⟩ (.int .i64 ra)).setCell ⟨w.heap.size, 1, none⟩ (.int .i64 0)).setCell ⟨w.heap.size, 2, none⟩ (.slice Aa la ca')).setCell ⟨w.heap.size + 1, 0, none⟩ (.int .i64 rb)).setCell ⟨w.heap.size + 1, 1, none⟩ (.int .i64 1)).setCell ⟨w.heap.size + 1, 2, none⟩ (.slice Ab lb cb')).drew (w.heap.size + 1) 63 #[.int .i64 rb, .int .i64 1, .slice Ab lb cb']) := Lib.hid (boxD E2)
      have FIN : Hid (MkFin w ra rb n (kcs ra rb p n n) (.returned (.tuple #[.agg #[.int .i64 ra, .int .i64 0, .slice Aa la ca'], .agg #[.int .i64 rb, .int .i64 1, .slice Ab lb cb'], .bool true])) ((((((wr.setCell ⟨w.heap.size, 0, none⟩ (.int .i64 ra)).setCell ⟨w.heap.size, 1, none⟩ (.int .i64 0)).setCell ⟨w.heap.size, 2, none⟩ (.slice Aa la ca')).setCell ⟨w.heap.size + 1, 0, none⟩ (.int .i64 rb)).setCell ⟨w.heap.size + 1, 1, none⟩ (.int .i64 1)).setCell ⟨w.heap.size + 1, 2, none⟩ (.slice Ab lb cb')).drew) := Lib.hid
        ⟨Aa, la, ca', Ab, lb, cb', rfl, ownsC_at HM.out.oa (fun q hq => d2.block q (HM.out.oa.lt q hq).2 (fun z => by have := HM.out.ga q hq; omega)), ownsC_at HM.out.ob (fun q hq => d2.block q (HM.out.ob.lt q hq).2 (fun z => by have := HM.out.gb q hq; omega)), fun q hq => by have := HM.out.ga q hq; omega, fun q hq => by have := HM.out.gb q hq; omega, HM.out.ne, HM.out.bel.trans (d2.below (Nat.le_refl _) HM.out.bel.size)⟩
      have sr := HM.out.r2.lt
      clear d1 d2 b1 b2 c0 KC R1 R2 R2' E1 E2 HM
      go_wp2_with fail
      go_region_held3 (fun W => (W.cell? ⟨w.heap.size + 1 + 1, 0, none⟩ = some (.int .i64 ra) ∧ W.cell? ⟨w.heap.size + 1 + 1, 1, none⟩ = some (.int .i64 0) ∧ W.cell? ⟨w.heap.size + 1 + 1, 2, none⟩ = some (.slice Aa la ca')) ∧ W.cell? ⟨w.heap.size + 1 + 1 + 1, 0, none⟩ = some (.int .i64 rb) ∧ W.cell? ⟨w.heap.size + 1 + 1 + 1, 1, none⟩ = some (.int .i64 1) ∧ W.cell? ⟨w.heap.size + 1 + 1 + 1, 2, none⟩ = some (.slice Ab lb cb'))
        (first | (with_reducible exact k0) | (with_reducible exact k1.out) | (with_reducible exact k2.out) | go_keep)
        (fail)
      all_goals
        have e10 := EE1.out.cell 0
        have e11 := EE1.out.cell 1
        have e12 := EE1.out.cell 2
        have e20 := EE2.out.cell 0
        have e21 := EE2.out.cell 1
        have e22 := EE2.out.cell 2
        go_wp2
        refine bodyPost_ret (v := .tuple #[.agg #[.int .i64 ra, .int .i64 0, .slice Aa la ca'], .agg #[.int .i64 rb, .int .i64 1, .slice Ab lb cb'], .bool true]) (by simp [results, Try.results44, go_sem, e10, e11, e12, e20, e21, e22]) rfl FIN.out
end Go.Proofs.Ytceogegjghmonaa
