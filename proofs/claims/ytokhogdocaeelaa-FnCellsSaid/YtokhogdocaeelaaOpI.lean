/- OpenCell of the program. -/
import Derived.Test.YtokhogdocaeelaaOpS
namespace Go.Proofs.Ytokhogdocaeelaa
set_option linter.unusedVariables false
open Go.RowKit

theorem FreshG.step {α : Type} {R : FRel α} (hR : Good R) {w W W' : World} {lo : Nat} {v : Value} {x : α} (h : FreshG R w lo W v x) (hb : Below W.heap.size W W') : FreshG R w lo W' v x := by
  obtain ⟨F, h1, h2, h3, h4⟩ := h
  exact ⟨F, hR.stab h1 (fun b hF => hb.block b (hR.lt h1 b hF)), h2, h3, h4.trans (hb.mono h4.size)⟩
theorem FreshG.down {α : Type} {R : FRel α} {w W : World} {lo lo' : Nat} {v : Value} {x : α} (h : FreshG R w lo W v x) (hl : lo' ≤ lo) : FreshG R w lo' W v x := by
  obtain ⟨F, h1, h2, h3, h4⟩ := h
  exact ⟨F, h1, h2, fun b hb => Nat.le_trans hl (h3 b hb), h4⟩
theorem FreshG.rdB {E : TypeId} {w W : World} {lo : Nat} {v : Value} {xs : List UInt8} (h : FreshG (Own E FB) w lo W v xs) : Rd RB W v xs := by
  obtain ⟨F, h1, _⟩ := h
  exact h1.rd (fun q => q.rb)
theorem FreshG.bel {α : Type} {R : FRel α} {w W : World} {lo : Nat} {v : Value} {x : α} (h : FreshG R w lo W v x) : Below w.heap.size w W := by
  obtain ⟨F, _, _, _, h4⟩ := h
  exact h4
set_option maxHeartbeats 1000000 in
theorem implOpenH_c (k c : Int) (v : Value) (cell : List UInt8) (w : World) (h : Rd RB w v cell) (hok : hdrOk k c cell = false) :
    Calls Try.prog 45 #[.int .i64 k, .int .i64 c, v] w fun e w' => OpNo w w' e := by
  obtain ⟨A, n, cc, rfl, h'⟩ := h
  obtain rfl := h'.1
  have hcm := Nat.le_trans h'.2.1 h'.2.2.1
  unfold maxLen at hcm
  clear h'
  have bx := below_alloc w (.cells #[.int .i64 0, .slice none 0 0] 58)
  have BX := Box.new w 58 #[.int .i64 0, .slice none 0 0]
  have bx0 : (w.alloc (.cells #[.int .i64 0, .slice none 0 0] 58)).cell? ⟨w.heap.size, 0, none⟩ = some (.int .i64 0) := BX.cell 0
  have bx1 : (w.alloc (.cells #[.int .i64 0, .slice none 0 0] 58)).cell? ⟨w.heap.size, 1, none⟩ = some (.slice none 0 0) := BX.cell 1
  clear BX
  have IK := Lib.hid (fun W => implKey_c k W)
  cases hk : keyOk k with
  | false =>
    rw [hk] at IK
    clear hok hk
    go_enter Try.func45, Try.ntmps45
    go_wp2_with fail
    go_quiet ((go_at_call 90; exact Calls.quiet_of_same ((IK.out _).mono fun _ _ ⟨h1, h2⟩ => ⟨h1, h2.symm⟩)))
    have bq := below_drewN bx nq
    replace bx0 : ((w.alloc (.cells #[.int .i64 0, .slice none 0 0] 58)).drewN nq).cell? ⟨w.heap.size, 0, none⟩ = some (.int .i64 0) := bx0
    replace bx1 : ((w.alloc (.cells #[.int .i64 0, .slice none 0 0] 58)).drewN nq).cell? ⟨w.heap.size, 1, none⟩ = some (.slice none 0 0) := bx1
    have f0 : ((w.alloc (.cells #[.int .i64 0, .slice none 0 0] 58)).drewN nq).frozen? ⟨w.heap.size, 0, none⟩ = false := (Box.new w 58 #[.int .i64 0, .slice none 0 0]).frozen 0
    have f1 : ((w.alloc (.cells #[.int .i64 0, .slice none 0 0] 58)).drewN nq).frozen? ⟨w.heap.size, 1, none⟩ = false := (Box.new w 58 #[.int .i64 0, .slice none 0 0]).frozen 1
    go_wp2
    refine bodyPost_ret (v := .tuple #[.agg #[.int .i64 0, .slice none 0 0], .bool false]) (by simp [results, Try.results45, go_sem, bx0, bx1]) rfl ⟨rfl, (bq.setCell (Nat.le_refl _) _).setCell (Nat.le_refl _) _⟩
  | true =>
    rw [hk] at IK
    by_cases hc : 0 ≤ c ∧ c ≤ 1000000000000
    · have hl : ¬ cell.length = 24 := by
        intro e
        unfold hdrOk cntOk at hok
        rw [hk, decide_eq_true hc, decide_eq_true e] at hok
        simp at hok
      have IR := Lib.hid (fun W => implIn_t c 0 1000000000000 W hc.1 hc.2)
      clear hok hk
      have hlt : ((cell.length : Int) != 24) = true := by simp; omega
      go_enter Try.func45, Try.ntmps45
      go_wp2_with fail
      go_quiet ((first | (go_at_call 90; exact Calls.quiet_of_same ((IK.out _).mono fun _ _ ⟨h1, h2⟩ => ⟨h1, h2.symm⟩)) | (go_at_call 91; exact Calls.quiet_of_same ((IR.out _).mono fun _ _ ⟨h1, h2⟩ => ⟨h1, h2.symm⟩))))
      have bq := below_drewN bx nq
      replace bx0 : ((w.alloc (.cells #[.int .i64 0, .slice none 0 0] 58)).drewN nq).cell? ⟨w.heap.size, 0, none⟩ = some (.int .i64 0) := bx0
      replace bx1 : ((w.alloc (.cells #[.int .i64 0, .slice none 0 0] 58)).drewN nq).cell? ⟨w.heap.size, 1, none⟩ = some (.slice none 0 0) := bx1
      have f0 : ((w.alloc (.cells #[.int .i64 0, .slice none 0 0] 58)).drewN nq).frozen? ⟨w.heap.size, 0, none⟩ = false := (Box.new w 58 #[.int .i64 0, .slice none 0 0]).frozen 0
      have f1 : ((w.alloc (.cells #[.int .i64 0, .slice none 0 0] 58)).drewN nq).frozen? ⟨w.heap.size, 1, none⟩ = false := (Box.new w 58 #[.int .i64 0, .slice none 0 0]).frozen 1
      go_wp2
      refine bodyPost_ret (v := .tuple #[.agg #[.int .i64 0, .slice none 0 0], .bool false]) (by simp [results, Try.results45, go_sem, bx0, bx1]) rfl ⟨rfl, (bq.setCell (Nat.le_refl _) _).setCell (Nat.le_refl _) _⟩
    · have IR := Lib.hid (fun W => implIn_f c 0 1000000000000 W hc)
      clear hc hok hk
      go_enter Try.func45, Try.ntmps45
      go_wp2_with fail
      go_quiet ((first | (go_at_call 90; exact Calls.quiet_of_same ((IK.out _).mono fun _ _ ⟨h1, h2⟩ => ⟨h1, h2.symm⟩)) | (go_at_call 91; exact Calls.quiet_of_same ((IR.out _).mono fun _ _ ⟨h1, h2⟩ => ⟨h1, h2.symm⟩))))
      have bq := below_drewN bx nq
      replace bx0 : ((w.alloc (.cells #[.int .i64 0, .slice none 0 0] 58)).drewN nq).cell? ⟨w.heap.size, 0, none⟩ = some (.int .i64 0) := bx0
      replace bx1 : ((w.alloc (.cells #[.int .i64 0, .slice none 0 0] 58)).drewN nq).cell? ⟨w.heap.size, 1, none⟩ = some (.slice none 0 0) := bx1
      have f0 : ((w.alloc (.cells #[.int .i64 0, .slice none 0 0] 58)).drewN nq).frozen? ⟨w.heap.size, 0, none⟩ = false := (Box.new w 58 #[.int .i64 0, .slice none 0 0]).frozen 0
      have f1 : ((w.alloc (.cells #[.int .i64 0, .slice none 0 0] 58)).drewN nq).frozen? ⟨w.heap.size, 1, none⟩ = false := (Box.new w 58 #[.int .i64 0, .slice none 0 0]).frozen 1
      go_wp2
      refine bodyPost_ret (v := .tuple #[.agg #[.int .i64 0, .slice none 0 0], .bool false]) (by simp [results, Try.results45, go_sem, bx0, bx1]) rfl ⟨rfl, (bq.setCell (Nat.le_refl _) _).setCell (Nat.le_refl _) _⟩
set_option maxHeartbeats 1000000 in
set_option maxRecDepth 100000 in
theorem implOpenT_c (k c : Int) (v : Value) (cell : List UInt8) (ok : Bool) (w : World) (h : Rd RB w v cell) (hh : hdrOk k c cell = true) (hok : Hid (openOk k c cell = ok)) :
    Calls Try.prog 45 #[.int .i64 k, .int .i64 c, v] w fun e w' => ∃ A l cc, e = .returned (.tuple #[.agg #[.int .i64 (opnM k c cell), .slice A l cc], .bool ok]) ∧ Fresh (Own 5 FB) w w' (.slice A l cc) (opnB k c cell) := by
  have hh2 := hh
  unfold hdrOk at hh2
  simp only [Bool.and_eq_true, decide_eq_true_eq] at hh2
  obtain ⟨⟨hk, hc⟩, hl⟩ := hh2
  have hc2 := of_decide_eq_true hc
  obtain ⟨A, n, cc, rfl, h'⟩ := h
  obtain rfl : n = 24 := h'.1.symm.trans hl
  have hnc := h'.2.1
  have hcm := h'.2.2.1
  unfold maxLen at hcm
  obtain ⟨b, off, rfl, hb, hcl⟩ := h'.2.2.2 (by omega)
  have bx := below_alloc w (.cells #[.int .i64 0, .slice none 0 0] 58)
  have BX := Lib.hid (Box.new w 58 #[.int .i64 0, .slice none 0 0])
  have IK : Hid (∀ W, Calls Try.prog 90 #[.int .i64 k] W fun e w' => e = .returned (.bool true) ∧ W = w') := Lib.hid (fun W => by have := implKey_c k W; rwa [hk] at this)
  have T20 : Hid (∀ W, Below w.heap.size w W → Rd RB W (.slice (some ⟨b, off, none⟩) 20 cc) (cell.take 20)) := Lib.hid (fun W hW => Rd_reads RB_reads _ _ _ _ (rd_take (n := 24) ⟨_, _, _, rfl, h'⟩ 20 (by omega)) hW)
  have D20 : Hid (∀ W, Below w.heap.size w W → Rd RB W (.slice (some ⟨b, off + 20, none⟩) 4 (cc - 20)) (cell.drop 20)) := Lib.hid (fun W hW => Rd_reads RB_reads _ _ _ _ (rd_drop (n := 24) ⟨_, _, _, rfl, h'⟩ 20 (by omega) rfl rfl) hW)
  have IR := Lib.hid (fun W => implIn_t c 0 1000000000000 W hc2.1 hc2.2)
  have CKB : Hid (∀ W, Below w.heap.size w W → Calls Try.prog 93 #[.int .i64 k, .int .i64 c, .slice (some ⟨b, off, none⟩) 20 cc] W fun e w' => ∃ v', e = .returned v' ∧ Fresh (Own 5 FB) W w' v' (ckB (cellCk k c (cell.take 20)))) := Lib.hid (fun W hW => implCkB_c k c _ _ W (T20.out W hW) (by rw [List.length_take]; omega))
  obtain ⟨ck, hck⟩ : ∃ ck, chkOk k c cell = ck := ⟨_, rfl⟩
  have EQ : Hid (∀ W u, Below w.heap.size w W → Rd RB W u (ckB (cellCk k c (cell.take 20))) → Calls Try.prog 92 #[.slice (some ⟨b, off + 20, none⟩) 4 (cc - 20), u] W fun e w' => e = .returned (.bool ck) ∧ Below W.heap.size W w') := Lib.hid (fun W u hW hu => by
    have := EqualB_c _ u _ _ W (D20.out W hW) hu
    rwa [show decide (cell.drop 20 = ckB (cellCk k c (cell.take 20))) = ck from hck] at this)
  have HL := Lib.hid hl
  have HHDR := Lib.hid hh
  have HCK := Lib.hid hck
  have h20 : (20 : Int) ≤ (cc : Int) := by omega
  have hn20 : ¬ cc = 20 := by omega
  clear hh hcl h' hk hc hl hck
  go_enter Try.func45, Try.ntmps45
  go_wp2_with fail
  have tL := bx.drew
  have dL := (Below.refl (w.alloc (.cells #[.int .i64 0, .slice none 0 0] 58)).heap.size (w.alloc (.cells #[.int .i64 0, .slice none 0 0] 58))).drew
  go_region_held3 (fun _ => True)
    (first | trivial | go_keep)
    (first
    | (go_at_call 90; refine (IK.out _).mono ?_; rintro e w' ⟨rfl, rfl⟩)
    | (go_at_call 91; refine (IR.out _).mono ?_; rintro e w' ⟨rfl, rfl⟩)
    | (go_at_call 93; refine (CKB.out _ tL).mono ?_; rintro e w2 ⟨v2, rfl, F2⟩; have tL := tL.trans (F2.below.mono tL.size); have dL := dL.trans (F2.below.mono dL.size); have rd2 := (F2.iv (Own_good FB_good)).rd (R' := RB) (fun q => q.rb); have b2 := F2.below; clear F2)
    | (go_at_call 92; refine (EQ.out _ _ tL rd2).mono ?_; rintro e w3 ⟨rfl, b3⟩; have tL := tL.trans (b3.mono tL.size); have dL := dL.trans (b3.mono dL.size)))
  have T2 := tL
  have BX2 := Lib.hid (BX.out.below dL BX.out.lt)
  clear b2 b3 rd2 tL dL CKB EQ IK IR D20 bx BX
  have f0 := BX2.out.frozen 0
  have f1 := BX2.out.frozen 1
  have d0 := BX2.out.cell 0
  have d1 := BX2.out.cell 1
  cases ck with
  | false =>
    have hno : openOk k c cell = false := by rw [openOk_eq, HCK.out]; simp
    have d2 := (BX2.out.set_ 0 (.int .i64 0)).cell 1
    have f2 := (BX2.out.set_ 0 (.int .i64 0)).frozen 1
    have B3 := (BX2.out.set_ 0 (.int .i64 0)).set_ 1 (.slice none 0 0)
    have bx0 := B3.cell 0
    have bx1 := B3.cell 1
    have FF : Hid (Fresh (Own 5 FB) w ((w3.setCell ⟨w.heap.size, 0, none⟩ (.int .i64 0)).setCell ⟨w.heap.size, 1, none⟩ (.slice none 0 0)) (.slice none 0 0) ([] : List UInt8)) := Lib.hid (fresh_nilB _ _ ((T2.setCell (Nat.le_refl _) _).setCell (Nat.le_refl _) _))
    clear B3
    go_wp2
    rw [(opn_no hno).1, (opn_no hno).2]
    have hk2 : ok = false := by rw [← hok.out, hno]
    subst hk2
    refine bodyPost_ret (v := .tuple #[.agg #[.int .i64 0, .slice none 0 0], .bool false]) (by simp [results, Try.results45, go_sem, bx0, bx1]) rfl ⟨_, _, _, rfl, FF.out⟩
  | true =>
    have CIP := Lib.hid (fun W => implCellKey_c k c W)
    have DEC : Hid (∀ W, Below w.heap.size w W → Calls Try.prog 94 #[.int .i64 (cellK k c), .slice (some ⟨b, off, none⟩) 20 cc] W fun e w' => ∃ v', e = .returned v' ∧ Fresh (Own 5 FB) W w' v' (opP k c cell)) := Lib.hid (fun W hW => implDec_c (cellK k c) _ _ W (T20.out W hW) (by rw [List.length_take]; omega))
    have hpl := opP_len (k := k) (c := c) HL.out
    obtain ⟨pl, hple⟩ : ∃ pl, opP k c cell = pl := ⟨_, rfl⟩
    have HPLE := Lib.hid hple
    rw [hple] at DEC hpl
    clear T20 hple d0 d1 f0 f1
    go_wp2_with fail
    have tL := T2.drew
    have dL := (Below.refl w3.heap.size w3).drew
    go_region_held3 (fun _ => True)
      (first | trivial | go_keep)
      (first
      | (go_at_call 95; refine (CIP.out _).mono ?_; rintro e w4 ⟨rfl, b4⟩; have tL := tL.trans (b4.mono tL.size); have dL := dL.trans (b4.mono dL.size); clear b4)
      | (go_at_call 94; refine (DEC.out _ tL).mono ?_; rintro e w5 ⟨v5, rfl, F4⟩; obtain ⟨A9, l9, c9, rfl⟩ := fresh_slice F4; have tL := tL.trans (F4.below.mono tL.size); have dL := dL.trans (F4.below.mono dL.size)))
    have T4 := tL
    have BX4 := Lib.hid (BX2.out.below dL BX2.out.lt)
    have rp := (F4.iv (Own_good FB_good)).rd (R' := RB) (fun q => q.rb)
    have hl9 : l9 = 20 := by have := rp.at_same.1; omega
    subst hl9
    have RP := Lib.hid rp
    have hc9 := rp.at_same.2.1
    have hm9 := rp.at_same.2.2.1
    obtain ⟨b9, o9, rfl, hb9, hcl9⟩ := rp.at_same.2.2.2 (by omega)
    obtain ⟨p0, p1, ps, rfl⟩ : ∃ p0 p1 ps, pl = p0 :: p1 :: ps := by
      match pl, hpl with
      | p0 :: p1 :: ps, _ => exact ⟨_, _, _, rfl⟩
    obtain ⟨u0, hu0, hr0⟩ := hcl9 0 p0 rfl
    obtain ⟨u1, hu1, hr1⟩ := hcl9 1 p1 rfl
    unfold RB at hr0 hr1
    subst hr0 hr1
    replace hu0 : w5.cell? ⟨b9, o9, none⟩ = some (.int .u8 (p0.toNat : Int)) := hu0
    have q0 := p0.toNat_lt
    have q1 := p1.toNat_lt
    have HBN : Hid (bndOk k c cell = decide ((p0.toNat : Int) ≤ 3 ∧ (p1.toNat : Int) ≤ 14)) := Lib.hid (by unfold bndOk; rw [HPLE.out]; rfl)
    clear hcl9 rp F4 dL tL CIP DEC T2 BX2
    have NO : Hid (¬ ((p0.toNat : Int) ≤ 3 ∧ (p1.toNat : Int) ≤ 14) → openOk k c cell = false) := Lib.hid (fun hn => by rw [openOk_eq, HBN.out, decide_eq_false hn]; simp)
    have g0 := BX4.out.frozen 0
    have g1 := BX4.out.frozen 1
    have e0 := BX4.out.cell 0
    have e1 := BX4.out.cell 1
    by_cases hp1 : (p1.toNat : Int) ≤ 14
    · have hb14 : p1.toNat ≤ 14 := by omega
      have hc2' : ¬ c9 = 2 := by omega
      have W0 : IntKind.i64.wrap (p0.toNat : Int) = (p0.toNat : Int) := IntWalk.i64_in _ (by omega)
      have W1 : IntKind.i64.wrap (p1.toNat : Int) = (p1.toNat : Int) := IntWalk.i64_in _ (by omega)
      have W2 : IntKind.i64.wrap (2 + (p1.toNat : Int)) = 2 + (p1.toNat : Int) := IntWalk.i64_in _ (by omega)
      have N1 : ((2 : Int) + (p1.toNat : Int)).toNat = 2 + p1.toNat := by omega
      have N2 : max ((2 : Int) + (p1.toNat : Int)) 0 = 2 + (p1.toNat : Int) := by omega
      have N3 : (2 : Int) + (p1.toNat : Int) ≤ (c9 : Int) := by omega
      have N4 : (0 : Int) ≤ 2 + (p1.toNat : Int) := by omega
      have N5 : (2 : Int) ≤ 2 + (p1.toNat : Int) := by omega
      have CL : Hid (∀ W, Below w5.heap.size w5 W → Calls Try.prog 96 #[.slice (some ⟨b9, o9 + 2, none⟩) p1.toNat (c9 - 2)] W fun e w' => ∃ v', e = .returned v' ∧ Fresh (Own 5 FB) W w' v' (((p0 :: p1 :: ps).drop 2).take p1.toNat)) := Lib.hid (fun W hW => CloneB_c _ _ W (Rd_reads RB_reads _ _ _ _ (rd_take (rd_drop RP.out 2 (by omega) rfl rfl) p1.toNat (by omega)) hW) (by rw [List.length_take]; omega))
      have HCE : Hid (∀ W, Below w5.heap.size w5 W → W.cell? ⟨b9, o9, none⟩ = some (.int .u8 (p0.toNat : Int)) ∧ W.cell? ⟨b9, o9 + 1, none⟩ = some (.int .u8 (p1.toNat : Int))) := Lib.hid (fun W hW => ⟨(hW.cell (p := ⟨b9, o9, none⟩) hb9).trans hu0, (hW.cell (p := ⟨b9, o9 + 1, none⟩) hb9).trans hu1⟩)
      go_wp2_with fail
      have dL := (Below.refl w5.heap.size w5).drew
      have dA : Below w5.heap.size w5 (w5.alloc (.cells #[.int .i64 0, .slice none 0 0] 58)).drew := (below_alloc w5 (.cells #[.int .i64 0, .slice none 0 0] 58)).drew
      have kc := HCE.out _ dL
      have kcA := HCE.out _ dA
      have hb95 : b9 ≠ w5.heap.size := Nat.ne_of_lt hb9
      go_region_held3 (fun W => W.cell? ⟨b9, o9, none⟩ = some (.int .u8 (p0.toNat : Int)) ∧ W.cell? ⟨b9, o9 + 1, none⟩ = some (.int .u8 (p1.toNat : Int)))
        (first | assumption | exact ⟨kcS.1, kcS.2⟩ | go_keep)
        (first
        | (go_at_call 96; refine (CL.out _ (by first | exact dL | exact dA)).mono ?_; rintro e w6 ⟨v6, rfl, F6⟩; obtain ⟨A6, l6, c6, rfl⟩ := fresh_slice F6; have dS : Below w5.heap.size w5 w6 := (by first | exact dL.trans (F6.below.mono dL.size) | exact dA.trans (F6.below.mono dA.size)); have kc := HCE.out _ dS; have kcS := HCE.out _ ((dS.setCell (p := ⟨w5.heap.size, 0, none⟩) (Nat.le_refl _) (.int .i64 (p0.toNat : Int))).setCell (p := ⟨w5.heap.size, 1, none⟩) (Nat.le_refl _) (.slice A6 l6 c6)); have kcB := HCE.out _ (dS.alloc dS.size (.cells #[.int .i64 (p0.toNat : Int), .slice A6 l6 c6] 58)); have kcC := HCE.out _ (dS.alloc dS.size (.cells #[.int .i64 0, .slice none 0 0] 58)); (try (have BN : Hid (Box w6 w5.heap.size 58 #[.int .i64 0, .slice none 0 0]) := Lib.hid (Box.below (show Box (w5.alloc (.cells #[.int .i64 0, .slice none 0 0] 58)).drew w5.heap.size 58 #[.int .i64 0, .slice none 0 0] from Box.new w5 _ _) F6.below (by simp)); have n0 := BN.out.cell 0; have n1 := BN.out.cell 1; have m0 := BN.out.frozen 0; have m1 := BN.out.frozen 1; have n2 := (BN.out.set_ 0 (.int .i64 (p0.toNat : Int))).cell 1; have m2 := (BN.out.set_ 0 (.int .i64 (p0.toNat : Int))).frozen 1))))
      · have GW : Hid (FreshG (Own 5 FB) w (w.heap.size + 1) (w6.alloc (.cells #[.int .i64 (p0.toNat : Int), .slice A6 l6 c6] 58)) (.slice A6 l6 c6) (((p0 :: p1 :: ps).drop 2).take p1.toNat)) := Lib.hid (((F6.g (w := w) T4.drew).alloc (Own_good FB_good) _).down (Nat.succ_le_of_lt BX4.out.lt))
        have BG : Hid (Box (w6.alloc (.cells #[.int .i64 (p0.toNat : Int), .slice A6 l6 c6] 58)) w6.heap.size 58 #[.int .i64 (p0.toNat : Int), .slice A6 l6 c6]) := Lib.hid (Box.new w6 _ _)
        have BW : Hid (Box (w6.alloc (.cells #[.int .i64 (p0.toNat : Int), .slice A6 l6 c6] 58)) w.heap.size 58 #[.int .i64 0, .slice none 0 0]) := Lib.hid ((BX4.out.below dS BX4.out.lt).alloc _)
        clear kcS kcB kcC
        generalize (w6.alloc (.cells #[.int .i64 (p0.toNat : Int), .slice A6 l6 c6] 58)) = W at *
        generalize w6.heap.size = g at *
        have IPc := implIsValidPlain_c (p0.toNat : Int) _ (((p0 :: p1 :: ps).drop 2).take p1.toNat) _ GW.out.rdB
        have hbl : (((p0 :: p1 :: ps).drop 2).take p1.toNat).length = p1.toNat := by rw [List.length_take, List.length_drop]; omega
        have c0 := BG.out.cell 0
        have c1 := BG.out.cell 1
        clear kc kcA dS F6 dL dA CL HCE hu0 hu1 e0 e1 g0 g1 BX4 RP
        by_cases hp0 : (p0.toNat : Int) ≤ 3
        · have hyes : openOk k c cell = true := by rw [openOk_eq, HBN.out, HHDR.out, HCK.out, decide_eq_true ⟨hp0, hp1⟩]; rfl
          have EB : Hid (opnB k c cell = (((p0 :: p1 :: ps).drop 2).take p1.toNat)) := Lib.hid (by rw [(opn_yes hyes).2]; show ((opP k c cell).drop 2).take ((opP k c cell).getD 1 0).toNat = _; rw [HPLE.out]; rfl)
          have EM : Hid (opnM k c cell = (p0.toNat : Int)) := Lib.hid (by rw [(opn_yes hyes).1]; show ((((opP k c cell).getD 0 0).toNat : Nat) : Int) = _; rw [HPLE.out]; rfl)
          have hk2 : ok = true := by rw [← hok.out, hyes]
          have IP : Hid (Calls Try.prog 58 #[.agg #[.int .i64 (p0.toNat : Int), .slice A6 l6 c6]] W fun e w' => e = .returned (.bool true) ∧ Below W.heap.size W w') := Lib.hid (by
            rw [show plainOk (p0.toNat : Int) (((p0 :: p1 :: ps).drop 2).take p1.toNat) = true from decide_eq_true ⟨by omega, hp0, by omega⟩] at IPc
            exact IPc)
          clear IPc hyes
          go_wp2_with fail
          refine IP.out.mono ?_
          rintro e w7 ⟨rfl, b7⟩
          have G7 := GW.out.step (Own_good FB_good) b7
          have BG7 := BG.out.below b7 BG.out.lt
          have BW7 := Lib.hid (BW.out.below b7 BW.out.lt)
          have k0 := BG7.cell 0
          have k1 := BG7.cell 1
          have s0 := BW7.out.cell 0
          have s1 := BW7.out.cell 1
          have t0 := BW7.out.frozen 0
          have t1 := BW7.out.frozen 1
          have s2 := (BW7.out.set_ 0 (.int .i64 (p0.toNat : Int))).cell 1
          have t2 := (BW7.out.set_ 0 (.int .i64 (p0.toNat : Int))).frozen 1
          have FF := Lib.hid (((G7.set (Own_good FB_good) (p := ⟨w.heap.size, 0, none⟩) (Nat.le_refl _) (Nat.lt_succ_self _) (.int .i64 (p0.toNat : Int))).set (Own_good FB_good) (p := ⟨w.heap.size, 1, none⟩) (Nat.le_refl _) (Nat.lt_succ_self _) (.slice A6 l6 c6)).fresh (Nat.le_succ _))
          have B8 := (BW7.out.set_ 0 (.int .i64 (p0.toNat : Int))).set_ 1 (.slice A6 l6 c6)
          have bx0 := B8.cell 0
          have bx1 := B8.cell 1
          clear G7 BG7 B8 b7
          go_wp2
          subst hk2
          refine bodyPost_ret (v := .tuple #[.agg #[.int .i64 (p0.toNat : Int), .slice A6 l6 c6], .bool true]) (by simp [results, Try.results45, go_sem, bx0, bx1]) rfl ⟨_, _, _, by rw [EM.out], by rw [EB.out]; exact FF.out⟩
        · have hno := NO.out (fun h => hp0 h.1)
          have IP : Hid (Calls Try.prog 58 #[.agg #[.int .i64 (p0.toNat : Int), .slice A6 l6 c6]] W fun e w' => e = .returned (.bool false) ∧ Below W.heap.size W w') := Lib.hid (by
            rw [show plainOk (p0.toNat : Int) (((p0 :: p1 :: ps).drop 2).take p1.toNat) = false from decide_eq_false (fun h => hp0 h.2.1)] at IPc
            exact IPc)
          clear IPc
          go_wp2_with fail
          refine IP.out.mono ?_
          rintro e w7 ⟨rfl, b7⟩
          have T7 := GW.out.bel.trans (b7.mono GW.out.bel.size)
          have BW7 := Lib.hid (BW.out.below b7 BW.out.lt)
          have s0 := BW7.out.cell 0
          have s1 := BW7.out.cell 1
          have t0 := BW7.out.frozen 0
          have t1 := BW7.out.frozen 1
          have s2 := (BW7.out.set_ 0 (.int .i64 0)).cell 1
          have t2 := (BW7.out.set_ 0 (.int .i64 0)).frozen 1
          have B8 := (BW7.out.set_ 0 (.int .i64 0)).set_ 1 (.slice none 0 0)
          have bx0 := B8.cell 0
          have bx1 := B8.cell 1
          have FF : Hid (Fresh (Own 5 FB) w ((w7.setCell ⟨w.heap.size, 0, none⟩ (.int .i64 0)).setCell ⟨w.heap.size, 1, none⟩ (.slice none 0 0)) (.slice none 0 0) ([] : List UInt8)) := Lib.hid (fresh_nilB _ _ ((T7.setCell (Nat.le_refl _) _).setCell (Nat.le_refl _) _))
          clear B8 b7 T7
          go_wp2
          rw [(opn_no hno).1, (opn_no hno).2]
          have hk2 : ok = false := by rw [← hok.out, hno]
          subst hk2
          refine bodyPost_ret (v := .tuple #[.agg #[.int .i64 0, .slice none 0 0], .bool false]) (by simp [results, Try.results45, go_sem, bx0, bx1]) rfl ⟨_, _, _, rfl, FF.out⟩
      · have GW : Hid (FreshG (Own 5 FB) w (w.heap.size + 1) ((w6.setCell ⟨w5.heap.size, 0, none⟩ (.int .i64 (p0.toNat : Int))).setCell ⟨w5.heap.size, 1, none⟩ (.slice A6 l6 c6)) (.slice A6 l6 c6) (((p0 :: p1 :: ps).drop 2).take p1.toNat)) := Lib.hid ((((F6.g (w := w) ((T4.alloc T4.size _).drew)).set (Own_good FB_good) (p := ⟨w5.heap.size, 0, none⟩) T4.size (by simp) (.int .i64 (p0.toNat : Int))).set (Own_good FB_good) (p := ⟨w5.heap.size, 1, none⟩) T4.size (by simp) (.slice A6 l6 c6)).down (by have := BX4.out.lt; simp; omega))
        have BG : Hid (Box ((w6.setCell ⟨w5.heap.size, 0, none⟩ (.int .i64 (p0.toNat : Int))).setCell ⟨w5.heap.size, 1, none⟩ (.slice A6 l6 c6)) w5.heap.size 58 #[.int .i64 (p0.toNat : Int), .slice A6 l6 c6]) := Lib.hid ((BN.out.set_ 0 (.int .i64 (p0.toNat : Int))).set_ 1 (.slice A6 l6 c6))
        have BW : Hid (Box ((w6.setCell ⟨w5.heap.size, 0, none⟩ (.int .i64 (p0.toNat : Int))).setCell ⟨w5.heap.size, 1, none⟩ (.slice A6 l6 c6)) w.heap.size 58 #[.int .i64 0, .slice none 0 0]) := Lib.hid (((BX4.out.below dS BX4.out.lt).far (p := ⟨w5.heap.size, 0, none⟩) (Nat.ne_of_lt BX4.out.lt) _).far (p := ⟨w5.heap.size, 1, none⟩) (Nat.ne_of_lt BX4.out.lt) _)
        clear kcS kcB kcC BN n0 n1 m0 m1 n2 m2
        generalize ((w6.setCell ⟨w5.heap.size, 0, none⟩ (.int .i64 (p0.toNat : Int))).setCell ⟨w5.heap.size, 1, none⟩ (.slice A6 l6 c6)) = W at *
        generalize w5.heap.size = g at *
        have IPc := implIsValidPlain_c (p0.toNat : Int) _ (((p0 :: p1 :: ps).drop 2).take p1.toNat) _ GW.out.rdB
        have hbl : (((p0 :: p1 :: ps).drop 2).take p1.toNat).length = p1.toNat := by rw [List.length_take, List.length_drop]; omega
        have c0 := BG.out.cell 0
        have c1 := BG.out.cell 1
        clear kc kcA dS F6 dL dA CL HCE hu0 hu1 e0 e1 g0 g1 BX4 RP
        by_cases hp0 : (p0.toNat : Int) ≤ 3
        · have hyes : openOk k c cell = true := by rw [openOk_eq, HBN.out, HHDR.out, HCK.out, decide_eq_true ⟨hp0, hp1⟩]; rfl
          have EB : Hid (opnB k c cell = (((p0 :: p1 :: ps).drop 2).take p1.toNat)) := Lib.hid (by rw [(opn_yes hyes).2]; show ((opP k c cell).drop 2).take ((opP k c cell).getD 1 0).toNat = _; rw [HPLE.out]; rfl)
          have EM : Hid (opnM k c cell = (p0.toNat : Int)) := Lib.hid (by rw [(opn_yes hyes).1]; show ((((opP k c cell).getD 0 0).toNat : Nat) : Int) = _; rw [HPLE.out]; rfl)
          have hk2 : ok = true := by rw [← hok.out, hyes]
          have IP : Hid (Calls Try.prog 58 #[.agg #[.int .i64 (p0.toNat : Int), .slice A6 l6 c6]] W fun e w' => e = .returned (.bool true) ∧ Below W.heap.size W w') := Lib.hid (by
            rw [show plainOk (p0.toNat : Int) (((p0 :: p1 :: ps).drop 2).take p1.toNat) = true from decide_eq_true ⟨by omega, hp0, by omega⟩] at IPc
            exact IPc)
          clear IPc hyes
          go_wp2_with fail
          refine IP.out.mono ?_
          rintro e w7 ⟨rfl, b7⟩
          have G7 := GW.out.step (Own_good FB_good) b7
          have BG7 := BG.out.below b7 BG.out.lt
          have BW7 := Lib.hid (BW.out.below b7 BW.out.lt)
          have k0 := BG7.cell 0
          have k1 := BG7.cell 1
          have s0 := BW7.out.cell 0
          have s1 := BW7.out.cell 1
          have t0 := BW7.out.frozen 0
          have t1 := BW7.out.frozen 1
          have s2 := (BW7.out.set_ 0 (.int .i64 (p0.toNat : Int))).cell 1
          have t2 := (BW7.out.set_ 0 (.int .i64 (p0.toNat : Int))).frozen 1
          have FF := Lib.hid (((G7.set (Own_good FB_good) (p := ⟨w.heap.size, 0, none⟩) (Nat.le_refl _) (Nat.lt_succ_self _) (.int .i64 (p0.toNat : Int))).set (Own_good FB_good) (p := ⟨w.heap.size, 1, none⟩) (Nat.le_refl _) (Nat.lt_succ_self _) (.slice A6 l6 c6)).fresh (Nat.le_succ _))
          have B8 := (BW7.out.set_ 0 (.int .i64 (p0.toNat : Int))).set_ 1 (.slice A6 l6 c6)
          have bx0 := B8.cell 0
          have bx1 := B8.cell 1
          clear G7 BG7 B8 b7
          go_wp2
          subst hk2
          refine bodyPost_ret (v := .tuple #[.agg #[.int .i64 (p0.toNat : Int), .slice A6 l6 c6], .bool true]) (by simp [results, Try.results45, go_sem, bx0, bx1]) rfl ⟨_, _, _, by rw [EM.out], by rw [EB.out]; exact FF.out⟩
        · have hno := NO.out (fun h => hp0 h.1)
          have IP : Hid (Calls Try.prog 58 #[.agg #[.int .i64 (p0.toNat : Int), .slice A6 l6 c6]] W fun e w' => e = .returned (.bool false) ∧ Below W.heap.size W w') := Lib.hid (by
            rw [show plainOk (p0.toNat : Int) (((p0 :: p1 :: ps).drop 2).take p1.toNat) = false from decide_eq_false (fun h => hp0 h.2.1)] at IPc
            exact IPc)
          clear IPc
          go_wp2_with fail
          refine IP.out.mono ?_
          rintro e w7 ⟨rfl, b7⟩
          have T7 := GW.out.bel.trans (b7.mono GW.out.bel.size)
          have BW7 := Lib.hid (BW.out.below b7 BW.out.lt)
          have s0 := BW7.out.cell 0
          have s1 := BW7.out.cell 1
          have t0 := BW7.out.frozen 0
          have t1 := BW7.out.frozen 1
          have s2 := (BW7.out.set_ 0 (.int .i64 0)).cell 1
          have t2 := (BW7.out.set_ 0 (.int .i64 0)).frozen 1
          have B8 := (BW7.out.set_ 0 (.int .i64 0)).set_ 1 (.slice none 0 0)
          have bx0 := B8.cell 0
          have bx1 := B8.cell 1
          have FF : Hid (Fresh (Own 5 FB) w ((w7.setCell ⟨w.heap.size, 0, none⟩ (.int .i64 0)).setCell ⟨w.heap.size, 1, none⟩ (.slice none 0 0)) (.slice none 0 0) ([] : List UInt8)) := Lib.hid (fresh_nilB _ _ ((T7.setCell (Nat.le_refl _) _).setCell (Nat.le_refl _) _))
          clear B8 b7 T7
          go_wp2
          rw [(opn_no hno).1, (opn_no hno).2]
          have hk2 : ok = false := by rw [← hok.out, hno]
          subst hk2
          refine bodyPost_ret (v := .tuple #[.agg #[.int .i64 0, .slice none 0 0], .bool false]) (by simp [results, Try.results45, go_sem, bx0, bx1]) rfl ⟨_, _, _, rfl, FF.out⟩
    · have hno := NO.out (fun h => hp1 h.2)
      have e2 := (BX4.out.set_ 0 (.int .i64 0)).cell 1
      have g2 := (BX4.out.set_ 0 (.int .i64 0)).frozen 1
      have B5 := (BX4.out.set_ 0 (.int .i64 0)).set_ 1 (.slice none 0 0)
      have bx0 := B5.cell 0
      have bx1 := B5.cell 1
      have FF : Hid (Fresh (Own 5 FB) w ((w5.setCell ⟨w.heap.size, 0, none⟩ (.int .i64 0)).setCell ⟨w.heap.size, 1, none⟩ (.slice none 0 0)) (.slice none 0 0) ([] : List UInt8)) := Lib.hid (fresh_nilB _ _ ((T4.setCell (Nat.le_refl _) _).setCell (Nat.le_refl _) _))
      clear B5
      go_wp2
      rw [(opn_no hno).1, (opn_no hno).2]
      have hk2 : ok = false := by rw [← hok.out, hno]
      subst hk2
      refine bodyPost_ret (v := .tuple #[.agg #[.int .i64 0, .slice none 0 0], .bool false]) (by simp [results, Try.results45, go_sem, bx0, bx1]) rfl ⟨_, _, _, rfl, FF.out⟩
end Go.Proofs.Ytokhogdocaeelaa
