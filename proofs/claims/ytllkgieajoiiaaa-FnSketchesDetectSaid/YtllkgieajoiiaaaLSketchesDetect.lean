/- FnSketchesDetect, for every argument, no condition: a vector with two nonzero components is rejected for most challenges; the program and the reference count the same. -/
import Derived.Test.YtllkgieajoiiaaaDetect
import Derived.Test.YtllkgieajoiiaaaAt
namespace Go.Proofs.Ytllkgieajoiiaaa.fnSketchesDetect
set_option linter.unusedVariables false
open Go.RowKit Go.ChangeShapes Go.WideShapes Go.ChangeAt

set_option maxHeartbeats 4000000 in
set_option maxRecDepth 100000 in
theorem walk (w : World) (v0 : Value) (x0 : List UInt8) (y0 : Rd RB w v0 x0) :
    Calls Try.prog 5 #[v0] w fun e w' => e = .returned (.bool true) ∧ Below w.heap.size w w' := by
  by_cases hl : x0.length ≤ 1048576
  · obtain ⟨A, n, c, rfl, h'⟩ := y0
    have y0 : Rd RB w (.slice A n c) x0 := ⟨_, _, _, rfl, h'⟩
    clear h'
    have AT : Hid (∀ (i : Int) (W : World), Below w.heap.size w W → 0 ≤ i → i ≤ 1000000 → Calls Try.prog 26 #[.slice A n c, .int .i64 i] W fun e w' => e = .returned (.int .i64 (atI x0 i)) ∧ W = w') := Lib.hid (fun i W b h0 h1 => at_c _ x0 i W (Rd_reads RB_reads _ _ _ _ y0 b) hl h0 h1)
    have HB := Lib.hid (big_f _ x0 w y0 hl)
    clear y0 hl
    obtain ⟨a0, e0⟩ : ∃ a, atI x0 0 = a := ⟨_, rfl⟩
    obtain ⟨a1, e1⟩ : ∃ a, atI x0 1 = a := ⟨_, rfl⟩
    obtain ⟨a2, e2⟩ : ∃ a, atI x0 2 = a := ⟨_, rfl⟩
    obtain ⟨a3, e3⟩ : ∃ a, atI x0 3 = a := ⟨_, rfl⟩
    obtain ⟨a4, e4⟩ : ∃ a, atI x0 4 = a := ⟨_, rfl⟩
    obtain ⟨a5, e5⟩ : ∃ a, atI x0 5 = a := ⟨_, rfl⟩
    have b0 := atI_bd x0 0
    have b1 := atI_bd x0 1
    have b2 := atI_bd x0 2
    have b3 := atI_bd x0 3
    have b4 := atI_bd x0 4
    have b5 := atI_bd x0 5
    rw [e0] at b0
    rw [e1] at b1
    rw [e2] at b2
    rw [e3] at b3
    rw [e4] at b4
    rw [e5] at b5
    have E0 := Lib.hid e0
    have E1 := Lib.hid e1
    have E2 := Lib.hid e2
    have E3 := Lib.hid e3
    have E4 := Lib.hid e4
    have E5 := Lib.hid e5
    clear e0 e1 e2 e3 e4 e5
    obtain ⟨m, hm⟩ : ∃ m : Nat, a0 % 20 = (m : Int) := ⟨(a0 % 20).toNat, by omega⟩
    have hm20 : m < 20 := by omega
    go_enter Try.func5, Try.ntmps5
    go_wp2_with fail
    refine HB.out.mono ?_
    rintro e w' ⟨rfl, rfl⟩
    go_wp2_with fail
    refine (AT.out 0 _ (Below.refl _ _) (by omega) (by omega)).mono ?_
    rintro e w' ⟨rfl, rfl⟩
    rw [E0.out]
    have hmk : ∀ W : World, (Instr.makeSlice 22 (.int .i64 (2 + (m : Int))) (.int .i64 (2 + (m : Int)))).run Try.prog W = .ok (.slice (some ⟨W.heap.size, 0, none⟩) (2 + m) (2 + m)) (W.alloc (.cells (madeCells #[.int .i64 0] (2 + m)) 3)) := fun W => by
      have := run_mk elI .i64 .i64 (2 + m) (by omega) (by omega) W
      simpa using this
    have bW := below_alloc w (.cells (madeCells #[.int .i64 0] (2 + m)) 3)
    go_wp2_with fail
    refine (AT.out 1 _ bW (by omega) (by omega)).mono ?_
    rintro e w' ⟨rfl, rfl⟩
    rw [E1.out]
    obtain ⟨i, hi⟩ : ∃ i : Nat, a1 % (2 + (m : Int)) = (i : Int) := ⟨(a1 % (2 + (m : Int))).toNat, by have := Int.emod_nonneg a1 (show (2 + (m : Int)) ≠ 0 by omega); omega⟩
    have hi2 : i < 2 + m := by have := Int.emod_lt_of_pos a1 (show 0 < (2 + (m : Int)) by omega); omega
    go_wp2_with fail
    refine (AT.out 2 _ bW (by omega) (by omega)).mono ?_
    rintro e w' ⟨rfl, rfl⟩
    rw [E2.out]
    obtain ⟨q, hq⟩ : ∃ q : Nat, a2 % (2 + (m : Int) - 1) = (q : Int) := ⟨(a2 % (2 + (m : Int) - 1)).toNat, by have := Int.emod_nonneg a2 (show (2 + (m : Int) - 1) ≠ 0 by omega); omega⟩
    have hq2 : q < 1 + m := by have := Int.emod_lt_of_pos a2 (show 0 < (2 + (m : Int) - 1) by omega); omega
    obtain ⟨k, hk⟩ : ∃ k : Nat, ((i : Int) + 1 + (q : Int)) % (2 + (m : Int)) = (k : Int) := ⟨(((i : Int) + 1 + (q : Int)) % (2 + (m : Int))).toNat, by have := Int.emod_nonneg ((i : Int) + 1 + (q : Int)) (show (2 + (m : Int)) ≠ 0 by omega); omega⟩
    have hk2 : k < 2 + m := by have := Int.emod_lt_of_pos ((i : Int) + 1 + (q : Int)) (show 0 < (2 + (m : Int)) by omega); omega
    have hik : i ≠ k := by
      intro e
      by_cases hlt : (i : Int) + 1 + (q : Int) < 2 + (m : Int)
      · rw [Int.emod_eq_of_lt (by omega) hlt] at hk; omega
      · have e2 : ((i : Int) + 1 + (q : Int)) % (2 + (m : Int)) = (i : Int) + 1 + (q : Int) - (2 + (m : Int)) := by
          rw [← Int.sub_emod_right, Int.emod_eq_of_lt (by omega) (by omega)]
        rw [e2] at hk; omega
    have HIK := Lib.hid hik
    have hi0 : (0 : Int) ≤ (i : Int) := by omega
    have hk0 : (0 : Int) ≤ (k : Int) := by omega
    have hi3 : (i : Int) < 2 + (m : Int) := by omega
    have hk3 : (k : Int) < 2 + (m : Int) := by omega
    have ho := own_made (E := 3) w (.int .i64 0) (2 + m) (by simp only [maxLen]; omega)
    have c1 := (ho.cellAt i (by omega)).trans (show (List.replicate (2 + m) (Value.int .i64 0))[i]? = some (.int .i64 0) by rw [List.getElem?_replicate, if_pos (by omega)])
    have c2 := (ho.cellAt k (by omega)).trans (show (List.replicate (2 + m) (Value.int .i64 0))[k]? = some (.int .i64 0) by rw [List.getElem?_replicate, if_pos (by omega)])
    have f1 := ho.frozenAt i
    have f2 := ho.frozenAt k
    clear hik ho
    go_wp2_with fail
    refine (AT.out 3 _ bW (by omega) (by omega)).mono ?_
    rintro e w' ⟨rfl, rfl⟩
    rw [E3.out]
    have g1 : (w.alloc (.cells ((madeCells #[.int .i64 0] (2 + m)).setIfInBounds i (.int .i64 (1 + a3))) 3)).cell? ⟨w.heap.size, k, none⟩ = some (.int .i64 0) := by
      rw [World.cell?_alloc_at _ _ _ _ rfl]
      show ((madeCells #[Value.int .i64 0] (2 + m)).setIfInBounds i (.int .i64 (1 + a3)))[k]? = some (.int .i64 0)
      rw [Array.getElem?_setIfInBounds_ne HIK.out]
      have := (own_made (E := 3) w (.int .i64 0) (2 + m) (by simp only [maxLen]; omega)).cellAt k (by omega)
      rw [World.cell?_alloc_at _ _ _ _ rfl] at this
      exact this.trans (by rw [List.getElem?_replicate, if_pos (by omega)])
    have g2 : (w.alloc (.cells ((madeCells #[.int .i64 0] (2 + m)).setIfInBounds i (.int .i64 (1 + a3))) 3)).frozen? ⟨w.heap.size, k, none⟩ = false := (Box.new w 3 _).frozen k
    have bW2 := below_alloc w (.cells ((madeCells #[.int .i64 0] (2 + m)).setIfInBounds i (.int .i64 (1 + a3))) 3)
    go_wp2_with fail
    refine (AT.out 4 _ bW2 (by omega) (by omega)).mono ?_
    rintro e w' ⟨rfl, rfl⟩
    rw [E4.out]
    have bW3 := below_alloc w (.cells (((madeCells #[.int .i64 0] (2 + m)).setIfInBounds i (.int .i64 (1 + a3))).setIfInBounds k (.int .i64 (1 + a4))) 3)
    have RV : Rd RI (w.alloc (.cells (((madeCells #[.int .i64 0] (2 + m)).setIfInBounds i (.int .i64 (1 + a3))).setIfInBounds k (.int .i64 (1 + a4))) 3)) (.slice (some ⟨w.heap.size, 0, none⟩) (2 + m) (2 + m)) (two (2 + m) i k (1 + a3) (1 + a4)) := by
      have hcs : (((madeCells #[Value.int .i64 0] (2 + m)).setIfInBounds i (.int .i64 (1 + a3))).setIfInBounds k (.int .i64 (1 + a4))).size = 2 + m := by simp [size_madeCells]
      have hl : (((madeCells #[Value.int .i64 0] (2 + m)).setIfInBounds i (.int .i64 (1 + a3))).setIfInBounds k (.int .i64 (1 + a4))).toList = (two (2 + m) i k (1 + a3) (1 + a4)).map (fun x => Value.int .i64 x) := by
        unfold two
        rw [Array.toList_setIfInBounds, Array.toList_setIfInBounds, toList_madeCells_one, List.map_set, List.map_set, List.map_replicate]
      have rw0 := Row_lit (E := 3) (B := w.heap.size) w (((madeCells #[.int .i64 0] (2 + m)).setIfInBounds i (.int .i64 (1 + a3))).setIfInBounds k (.int .i64 (1 + a4))) (Nat.le_refl _) (by rw [hcs]; simp only [maxLen]; omega)
      rw [hl, hcs] at rw0
      exact rd_rowI rw0.1 rfl
    obtain ⟨f, hf⟩ : ∃ f : Nat, a5 = (f : Int) := ⟨a5.toNat, by omega⟩
    have hD := detect (2 + m) i k f (1 + a3) (1 + a4) HIK.out hi2 hk2 (by omega) (by omega) (by omega) (by omega)
    rw [← hf] at hD
    have hC := cntA_bd (two (2 + m) i k (1 + a3) (1 + a4)) a5 40
    have h40 : clampN 40 200 = 40 := rfl
    have IC : Hid (∀ W, Rd RI W (.slice (some ⟨w.heap.size, 0, none⟩) (2 + m) (2 + m)) (two (2 + m) i k (1 + a3) (1 + a4)) → Calls Try.prog 27 #[.slice (some ⟨w.heap.size, 0, none⟩) (2 + m) (2 + m), .int .i64 a5, .int .i64 40] W fun e w' => e = .returned (.int .i64 (cntA (two (2 + m) i k (1 + a3) (1 + a4)) a5 40)) ∧ Below W.heap.size W w') := Lib.hid (fun W h => by have := implCount_c _ _ a5 40 W h; rw [h40] at this; exact this)
    have SC : Hid (∀ W, Rd RI W (.slice (some ⟨w.heap.size, 0, none⟩) (2 + m) (2 + m)) (two (2 + m) i k (1 + a3) (1 + a4)) → Calls Try.prog 28 #[.slice (some ⟨w.heap.size, 0, none⟩) (2 + m) (2 + m), .int .i64 a5, .int .i64 40] W fun e w' => e = .returned (.int .i64 (cntA (two (2 + m) i k (1 + a3) (1 + a4)) a5 40)) ∧ Below W.heap.size W w') := Lib.hid (fun W h => by have := specCount_c _ _ a5 40 W h; rw [h40] at this; exact this)
    clear hf h40 c1 c2 f1 f2
    generalize cntA (two (2 + m) i k (1 + a3) (1 + a4)) a5 40 = z at *
    go_wp2_with fail
    refine (AT.out 5 _ bW3 (by omega) (by omega)).mono ?_
    rintro e w' ⟨rfl, rfl⟩
    rw [E5.out]
    go_wp2_with fail
    refine (IC.out _ RV).mono ?_
    rintro e w1 ⟨rfl, d1⟩
    have RV1 := Rd_reads RI_reads _ _ _ _ RV d1
    have T1 := bW3.trans (d1.mono bW3.size)
    clear d1 RV
    go_wp2_with fail
    refine (AT.out 5 _ T1 (by omega) (by omega)).mono ?_
    rintro e w' ⟨rfl, rfl⟩
    rw [E5.out]
    go_wp2_with fail
    refine (IC.out _ RV1).mono ?_
    rintro e w2 ⟨rfl, d2⟩
    have RV2 := Rd_reads RI_reads _ _ _ _ RV1 d2
    have T2 := T1.trans (d2.mono T1.size)
    clear d2 RV1
    go_wp2_with fail
    refine (AT.out 5 _ T2 (by omega) (by omega)).mono ?_
    rintro e w' ⟨rfl, rfl⟩
    rw [E5.out]
    go_wp2_with fail
    refine (SC.out _ RV2).mono ?_
    rintro e w3 ⟨rfl, d3⟩
    have T3 := T2.trans (d3.mono T2.size)
    clear d3 RV2
    go_wp2
    go_ret
    exact ⟨rfl, T3⟩
  · have HB := Lib.hid (big_t _ x0 w y0 hl)
    clear y0 hl
    go_enter Try.func5, Try.ntmps5
    go_wp2_with fail
    refine HB.out.mono ?_
    rintro e w' ⟨rfl, rfl⟩
    go_wp2
    go_ret
    exact ⟨rfl, Below.refl _ _⟩

set_option maxRecDepth 100000 in
theorem lifted (os : Os) (started : os.Started) (H : Type) (enc : TypeId × Value → H) :
    ReturnsInHanded {} Try.checked os 5 .any (Rows.fnSketchesDetectSpec.pre6 enc Try.prog Try.f5 Rows.fnSketchesDetectRow.domain false) (Rows.fnSketchesDetectSpec.post enc Try.prog Try.f5 false true false false) := by
  refine returnsInHanded_of_change (C := Try.checked) own_ started (by kernel_rfl) Try.func5
    (ChangeSpec.witness6 (enc := enc) (C := Try.checked) false ⟨#[], #[.slice none 0 0], []⟩ 8 (by kernel_rfl) (by kernel_rfl) (by kernel_rfl) (by kernel_rfl)) ?_
  intro W base args ds gs before hval0 hW hcnd _
  have hval : ∀ (j : Nat) t v, Try.f5.params[j]? = some t → args[j]? = some v → Value.okWide Try.prog W .any base t v := hval0
  have hW' := hW
  obtain ⟨p, q, hA0, hV, rfl, hfz, hnd⟩ := hW
  have hA : DataW.TrodAll enc Try.prog W 0 (fun _ => true) true Try.f5.params.toList args.toList ds p := hA0
  rw [Try.params5] at hA hval
  obtain ⟨v0, vs0, d0, ds0, p0, q0, hargs, rfl, rfl, h0, r0⟩ := trodAll_cons hA
  obtain ⟨rfl, rfl, rfl⟩ := trodAll_nil r0
  obtain rfl : args = #[v0] := by cases args; simp_all
  obtain ⟨rfl, rfl⟩ := trodVars_none hV
  have k0 := h0
  have lt0 : ∀ x ∈ p0, x.block < W.heap.size := by obtain ⟨m, hm⟩ := k0; exact DataW.trod_lt m _ _ _ hm
  obtain ⟨x0, y0⟩ := open_val Try.underlying33 (opens_slice Try.underlying33 (by kernel_rfl) (opens_u8 Try.underlying5)) (hval 0 33 v0 rfl rfl) h0
  clear hA0 hval0
  refine (walk W v0 x0 y0).mono fun e W' ⟨he, bel⟩ => ?_
  subst he
  exact ⟨_, rfl, _, _, _, [], _, [], hW', trodAll_mk1 (shut_bool Try.underlying4 _), (trodAll_cons_mk (Below.trod laid_ (by kernel_rfl) (of_decide_eq_true (by kernel_rfl)) k0 bel lt0) trodAll_mk0), rfl, bel.frame _, fun h => by cases h⟩

theorem over : Rows.fnSketchesDetectRow.holds Try.pinned (OpenSpec.ofChange Rows.fnSketchesDetectSpec) :=
  OpenClaim.holds_of_wide 5 Try.f5 rfl rfl rfl rfl rfl rfl rfl ⟨rfl, rfl, rfl, rfl, rfl⟩ rfl rfl rfl rfl rfl (by kernel_rfl) Try.func5 (by kernel_rfl)
    (of_decide_eq_true (by kernel_rfl)) (by unfold Func.isWrapper; first | (rw [if_pos (by decide +kernel)]; kernel_rfl) | (rw [if_neg (by decide +kernel)]; exact ⟨rfl, rfl⟩))
    (fun os started H enc _ => lifted os started H enc)

theorem proved : Rows.FnSketchesDetectSaid := over
end Go.Proofs.Ytllkgieajoiiaaa.fnSketchesDetect
