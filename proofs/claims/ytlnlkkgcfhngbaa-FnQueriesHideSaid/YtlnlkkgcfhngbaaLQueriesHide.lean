/- FnQueriesHide, for every argument, no condition: the selections of all servers but one fit every row. -/
import Derived.Test.YtlnlkkgcfhngbaaQh
import Derived.Test.YtlnlkkgcfhngbaaAt
import Derived.Test.YtlnlkkgcfhngbaaSame
import Derived.Test.YtlnlkkgcfhngbaaShallow
import Derived.Test.YtlnlkkgcfhngbaaKeep
import Derived.Test.YtlnlkkgcfhngbaaAppG
import Derived.Test.YtlnlkkgcfhngbaaJq
namespace Go.Proofs.Ytlnlkkgcfhngbaa.fnQueriesHide
set_option linter.unusedVariables false
open Go.RowKit Go.ChangeShapes Go.WideShapes Go.ChangeAt

set_option maxHeartbeats 4000000 in
set_option maxRecDepth 100000 in
theorem walk (w : World) (v0 : Value) (x0 : List UInt8) (y0 : Rd RB w v0 x0) :
    Calls Try.prog 8 #[v0] w fun e w' => e = .returned (.bool true) ∧ Below w.heap.size w w' := by
  by_cases hl : x0.length ≤ 1048576
  · obtain ⟨A, n, c, rfl, h'⟩ := y0
    have y0 : Rd RB w (.slice A n c) x0 := ⟨_, _, _, rfl, h'⟩
    clear h'
    have AT : Hid (∀ (i : Int) (W : World), Below w.heap.size w W → 0 ≤ i → i ≤ 1000000 → Calls Try.prog 49 #[.slice A n c, .int .i64 i] W fun e w' => e = .returned (.int .i64 (atI x0 i)) ∧ W = w') := Lib.hid (fun i W b h0 h1 => at_c _ x0 i W (Rd_reads RB_reads _ _ _ _ y0 b) hl h0 h1)
    have HB := Lib.hid (big_f _ x0 w y0 hl)
    clear y0 hl
    obtain ⟨a0, e0⟩ : ∃ a, atI x0 0 = a := ⟨_, rfl⟩
    obtain ⟨a1, e1⟩ : ∃ a, atI x0 1 = a := ⟨_, rfl⟩
    obtain ⟨a2, e2⟩ : ∃ a, atI x0 2 = a := ⟨_, rfl⟩
    obtain ⟨a3, e3⟩ : ∃ a, atI x0 3 = a := ⟨_, rfl⟩
    obtain ⟨a4, e4⟩ : ∃ a, atI x0 4 = a := ⟨_, rfl⟩
    have b0 := atI_bd x0 0
    have b1 := atI_bd x0 1
    have b2 := atI_bd x0 2
    have b3 := atI_bd x0 3
    have b4 := atI_bd x0 4
    rw [e0] at b0
    rw [e1] at b1
    rw [e2] at b2
    rw [e3] at b3
    rw [e4] at b4
    have E0 := Lib.hid e0
    have E1 := Lib.hid e1
    have E2 := Lib.hid e2
    have E3 := Lib.hid e3
    have E4 := Lib.hid e4
    clear e0 e1 e2 e3 e4
    obtain ⟨m, hm⟩ : ∃ m : Nat, a0 % 20 = (m : Int) := ⟨(a0 % 20).toNat, by omega⟩
    have hm20 : m < 20 := by omega
    have hcast : ((1 + m : Nat) : Int) = 1 + (m : Int) := by omega
    go_enter Try.func8, Try.ntmps8
    go_wp2_with fail
    refine HB.out.mono ?_
    rintro e w' ⟨rfl, rfl⟩
    go_wp2_with fail
    refine (AT.out 0 _ (Below.refl _ _) (by omega) (by omega)).mono ?_
    rintro e w' ⟨rfl, rfl⟩
    rw [E0.out]
    go_wp2_with fail
    refine (AT.out 1 _ (Below.refl _ _) (by omega) (by omega)).mono ?_
    rintro e w' ⟨rfl, rfl⟩
    rw [E1.out]
    go_wp2_with fail
    refine (AT.out 2 _ (Below.refl _ _) (by omega) (by omega)).mono ?_
    rintro e w' ⟨rfl, rfl⟩
    rw [E2.out]
    have bW := below_alloc w (.cells #[.int .i64 a1, .int .i64 (a2 + 300)] 3)
    go_wp2_with fail
    refine (AT.out 3 _ bW (by omega) (by omega)).mono ?_
    rintro e w' ⟨rfl, rfl⟩
    rw [E3.out]
    obtain ⟨j, hj⟩ : ∃ j : Nat, a3 % (1 + (m : Int)) = (j : Int) := ⟨(a3 % (1 + (m : Int))).toNat, by have := Int.emod_nonneg a3 (show (1 + (m : Int)) ≠ 0 by omega); omega⟩
    have hj2 : j < 1 + m := by have := Int.emod_lt_of_pos a3 (show 0 < (1 + (m : Int)) by omega); omega
    have RS : Rd RI (w.alloc (.cells #[.int .i64 a1, .int .i64 (a2 + 300)] 3)) (.slice (some ⟨w.heap.size, 0, none⟩) 2 2) [a1, a2 + 300] :=
      rd_rowI (Row_lit (E := 3) (B := w.heap.size) w #[.int .i64 a1, .int .i64 (a2 + 300)] (Nat.le_refl _) (by simp [maxLen])).1 rfl
    have hu := unitOk_of (n := 1 + m) (i := (j : Int)) (by omega) (by omega) (by omega) (by omega)
    have hq := mq_S (n := 1 + m) (i := (j : Int)) a1 (a2 + 300) (by omega) hu
    rw [hcast] at hq
    obtain ⟨q, hqe⟩ : ∃ q, mq (1 + (m : Int)) (j : Int) [a1, a2 + 300] = q := ⟨_, rfl⟩
    rw [hqe] at hq
    have hq3 := hq.1
    have HS := Lib.hid hq.2
    have HQ := Lib.hid hqe
    clear hq hqe hu
    go_wp2_with fail
    refine (implMq_c _ _ (1 + (m : Int)) (j : Int) _ RS (by simp) (by omega) (by omega) (by omega) (by omega)).mono ?_
    rintro e w1 ⟨v1, rfl, FQ⟩
    rw [HQ.out] at FQ
    have T1 := bW.trans (FQ.below.mono bW.size)
    obtain ⟨Aq, nq, cq, rfl⟩ := fresh_slice FQ
    have hrq := ((FQ.iv OII_good).rd (R' := Rd RI) (fun q => q.rd (fun z => z.ri))).at_same
    obtain rfl : 3 = nq := hq3.symm.trans hrq.1
    obtain ⟨bq, oq, rfl, hbq, _⟩ := hrq.2.2.2 (by omega)
    have hcq := hrq.2.1
    obtain ⟨cells, hsrc, hzip⟩ := hrq.src_zip
    have SR := Lib.hid hsrc
    have ONE : Hid (∀ u ∈ cells, u.oneCell' = true) := Lib.hid (fun u hu => by
      obtain ⟨k, hk⟩ := List.mem_iff_getElem?.1 hu
      have hkl : k < q.length := by have := (List.getElem?_eq_some_iff.1 hk).1; rw [hzip.1] at this; exact this
      obtain ⟨_, _, _, rfl, _⟩ := hzip.2 k u _ hk (List.getElem?_eq_getElem hkl)
      rfl)
    have ZP := Lib.hid hzip
    clear FQ RS hrq hsrc hzip
    go_wp2_with fail
    refine (AT.out 4 _ T1 (by omega) (by omega)).mono ?_
    rintro e w' ⟨rfl, rfl⟩
    rw [E4.out]
    obtain ⟨o, ho⟩ : ∃ o : Nat, a4 % 3 = (o : Int) := ⟨(a4 % 3).toNat, by omega⟩
    have ho3 : o < 3 := by omega
    have ho4 : o ≤ cq := by omega
    have ho5 : (o : Int) + 1 ≤ 3 := by omega
    have r0 : Row 27 w1.heap.size (w1.drew.alloc (.cells #[] 27)) (.slice (some ⟨w1.heap.size, 0, none⟩) 0 0) 0 [] := Row_lit (E := 27) (B := w1.heap.size) w1.drew #[] (Nat.le_refl _) (by simp)
    have bD : Below w1.heap.size w1 (w1.drew.alloc (.cells #[] 27)) := ((Below.refl w1.heap.size w1).drew).alloc (Nat.le_refl _) _
    have HOWN := r0.1
    have hw1 : IntKind.i64.wrap ((o : Int) + 1) = ((o + 1 : Nat) : Int) := by rw [IntWalk.i64_in _ (by omega)]; omega
    have hw2 : (0 : Int) ≤ (o : Int) + 1 := by omega
    have HSRC : Src (w1.drew.alloc (.cells #[] 27)) (some ⟨bq, oq, none⟩) o (cells.take o) := (SR.out.take_ (by omega)).below (Or.inr ⟨_, _, rfl, hbq⟩) bD
    have OL : Hid (∀ cs : List Value, cs.length = q.length → (cs.take o ++ cs.drop (o + 1)).length = 0 + o + (2 - o)) := Lib.hid (fun cs h => by rw [List.length_append, List.length_take, List.length_drop, h, hq3]; omega)
    go_wp2_with fail
    go_region_law (first
      | (refine step_app elII (by rfl) _ _ (by rfl) (.slice (some ⟨w1.heap.size, 0, none⟩) 0 0) 0 [] (by rfl) HOWN (some ⟨bq, oq, none⟩) o cq (cells.take o) (by rfl) HSRC (fun u hu => ONE.out u (List.mem_of_mem_take hu)) (by simp only [maxLen]; omega) (by omega) ?_; intro v4 w4 hown hg hat; obtain ⟨A4, l4, c4, rfl⟩ := own_shape hown; have P4 := r0.app0 bD (by simp) hown hg hat; have HOWN2 := P4.1.1; have HSRC2 : Src w4 (if cq = o + 1 then some ⟨bq, oq, none⟩ else some ⟨bq, oq + (o + 1), none⟩) (2 - o) (cells.drop (o + 1)) := src_cut2 SR.out (by omega) (by omega) hcq hbq P4.2; clear hown hg hat)
      | (refine step_app elII (by rfl) _ _ (by rfl) (.slice A4 l4 c4) (0 + o) ([] ++ cells.take o) (by rfl) HOWN2 (if cq = o + 1 then some ⟨bq, oq, none⟩ else some ⟨bq, oq + (o + 1), none⟩) (2 - o) (cq - (o + 1)) (cells.drop (o + 1)) (by rfl) HSRC2 (fun u hu => ONE.out u (List.mem_of_mem_drop hu)) (by simp only [maxLen]; omega) (by omega) ?_; intro v5 w5 hown hg hat; obtain ⟨A5, l5, c5, rfl⟩ := own_shape hown; have P5 := P4.1.app0 P4.2 (by have := P4.2.size; omega) hown hg hat; clear hown hg hat))
    all_goals
      have RO := rd_zip (R := Rd RI) P5.1.1 (by rw [List.nil_append]; exact (OL.out cells ZP.out.1)) (((ZP.out.take o).app (ZP.out.drop (o + 1))).below (Rd_reads RI_reads) P5.2)
      have T5 := T1.trans (P5.2.mono T1.size)
      clear P4 P5 HOWN2 HSRC2 HOWN HSRC r0 bD
      generalize (if cq = o + 1 then (some ⟨bq, oq, none⟩ : Option Addr) else some ⟨bq, oq + (o + 1), none⟩) = AX at *
      have HO := Lib.hid (others_S HS.out o)
      have RO' : Rd (Rd RI) w5 (.slice A5 l5 c5) (others q o) := RO
      have hl5 : l5 = 2 := (RO'.at_same.1.symm).trans (others_len hq3 ho3)
      subst hl5
      have HL := Lib.hid (others_len hq3 ho3)
      have RB5 := Lib.hid RO'
      clear RO RO' SR ZP ONE OL HS HQ T1
      go_wp2
      go_loopw [8] (fun i wr => ∃ k : Nat, k ≤ 1 + m ∧ i = .int .i64 k ∧ Below w5.heap.size w5 wr) (fun i _ => 1 + m - (intOf i).toNat)
      case atStart => exact ⟨0, Nat.zero_le _, rfl, Below.refl _ _⟩
      case round =>
        obtain ⟨k, hk, rfl, hb⟩ := hrel
        by_cases hlt : k < 1 + m
        · have hu := unitOk_of (n := 1 + m) (i := (k : Int)) (by omega) (by omega) (by omega) (by omega)
          have he := es_S HO.out hu
          have hx := explain_join (by omega) HO.out hu
          rw [← he.2.1] at hx
          rw [hcast] at he hx
          have hsum := S.sum HO.out
          rw [HL.out] at hsum
          have hkn : (k : Int) < 1 + (m : Int) := by omega
          have rb := Rd_reads (Rd_reads RI_reads) _ _ _ _ RB5.out hb
          have hex := implExpl_c (.slice A5 2 c5) (others q o) (1 + (m : Int)) (k : Int) true wr rb (Lib.hid he.1) (by unfold tot; have := HL.out; omega) (by omega) (by omega) (by omega) (by omega)
          have HE := Lib.hid he
          have HX := Lib.hid hx
          clear he hx hu rb
          go_wp2_with fail
          refine hex.mono ?_
          rintro e w6 ⟨v6, rfl, F6⟩
          obtain ⟨A6, l6, c6, rfl⟩ := fresh_slice F6
          have r6 := (F6.iv (Own_good FI_good)).rd (R' := RI) (fun q => q.ri)
          have T6 := hb.trans (F6.below.mono hb.size)
          have ro6 := Rd_reads (Rd_reads RI_reads) _ _ _ _ RB5.out T6
          obtain ⟨cs, hsrc6, hzip6⟩ := ro6.at_same.src_zip
          have ONE : Hid (∀ u ∈ cs, u.oneCell' = true) := Lib.hid (fun u hu => by
            obtain ⟨k, hk⟩ := List.mem_iff_getElem?.1 hu
            have hkl : k < (others q o).length := by have := (List.getElem?_eq_some_iff.1 hk).1; rw [hzip6.1] at this; exact this
            obtain ⟨_, _, _, rfl, _⟩ := hzip6.2 k u _ hk (List.getElem?_eq_getElem hkl)
            rfl)
          have ZP := Lib.hid hzip6
          have SR := Lib.hid hsrc6
          have R6 := Lib.hid r6
          have hisel : isSel (es (others q o) (1 + (m : Int)) (k : Int)) (1 + (m : Int)) = true := by have := HE.out.2.2.sel; rw [hcast] at this; exact this
          have hv := implIsSel_c _ _ (1 + (m : Int)) w6 r6
          rw [hisel] at hv
          have r0 : Row 27 w6.heap.size (w6.alloc (.cells #[] 27)) (.slice (some ⟨w6.heap.size, 0, none⟩) 0 0) 0 [] := Row_lit (E := 27) (B := w6.heap.size) w6 #[] (Nat.le_refl _) (by simp)
          have bL := below_alloc w6 (.cells #[] 27)
          clear F6 ro6 hsrc6 hzip6 r6 hisel
          go_wp2_with fail
          refine hv.mono ?_
          rintro e w7 ⟨rfl, rfl⟩
          go_wp2_with (first
            | (at_builtin; refine wpList_appG elII (by rfl) (.tmp 67) (.tmp 68) rfl _ 0 [] rfl r0.1 A5 2 c5 cs rfl (SR.out.alloc _) ONE.out (by simp only [maxLen]; omega) (by omega) ?_; intro v7 w7 hown hg hat; obtain ⟨A7, l7, c7, rfl⟩ := own_shape hown; have P7 := r0.app0 bL (by simp) hown hg hat; clear hown hg hat)
            | (at_builtin; refine wpList_appG elII (by rfl) (.tmp 69) (.tmp 71) rfl _ (0 + 2) ([] ++ cs) rfl (P7.1.1.alloc _) (some ⟨w7.heap.size, 0, none⟩) 1 1 [.slice A6 l6 c6] rfl (Src_one _ _ _) (one_single _ rfl) (by simp only [maxLen]; omega) (by omega) ?_; intro v8 w8 hown hg hat; obtain ⟨A8, l8, c8, rfl⟩ := own_shape hown; have P8 := (show Row 27 w6.heap.size (w7.alloc (.cells #[.slice A6 l6 c6] 27)) (.slice A7 l7 c7) (0 + 2) ([] ++ cs) from ⟨P7.1.1.alloc _, P7.1.2⟩).app0 (P7.2.alloc P7.2.size _) (by have := P7.2.size; simp; omega) hown hg hat; clear hown hg hat))
          have RJ := rd_zip (R := Rd RI) P8.1.1 (by have := ZP.out.1; have := HL.out; simp; omega) (((show Zip (Rd RI) w6 ([] ++ cs) (others q o) from ZP.out).app (Zip.one R6.out)).below (Rd_reads RI_reads) P8.2)
          have T8 := T6.trans (P8.2.mono T6.size)
          have hes := HE.out.2.2.2.1
          have hjq := implJoinQ_c _ _ w8 RJ (join_tot hsum HL.out hes (by omega))
          rw [HX.out] at hjq
          clear P7 P8 RJ hes
          go_wp2_with fail
          refine hjq.mono ?_
          rintro e w9 ⟨v9, rfl, F9⟩
          have T9 := T8.trans (F9.below.mono T8.size)
          have r9 := (F9.iv (Own_good FI_good)).rd (R' := RI) (fun q => q.ri)
          clear F9
          go_wp2_with fail
          refine (specUnit_c (1 + (m : Int)) (k : Int) w9 (by omega) (by omega) (by omega) (by omega)).mono ?_
          rintro e w10 ⟨v10, rfl, F10⟩
          have T10 := T9.trans (F10.below.mono T9.size)
          have r10 := (F10.iv (Own_good FI_good)).rd (R' := RI) (fun q => q.ri)
          have r9' := Rd_reads RI_reads _ _ _ _ r9 F10.below
          clear F10 r9
          go_wp2_with fail
          refine (sameI_c _ _ _ w10 r9' r10).mono ?_
          rintro e w11 ⟨rfl, b11⟩
          have T11 := T10.trans (b11.mono T10.size)
          clear b11 r10 r9'
          go_wp2
          go_roundw
          case rel => exact ⟨k + 1, by omega, by go_num, T11⟩
          case measure => simp [intOf]; omega
        · have hkn : k = 1 + m := by omega
          subst hkn
          have T6 := T5.trans (hb.mono T5.size)
          go_wp2
          go_ret
          exact ⟨rfl, T6⟩
  · have HB := Lib.hid (big_t _ x0 w y0 hl)
    clear y0 hl
    go_enter Try.func8, Try.ntmps8
    go_wp2_with fail
    refine HB.out.mono ?_
    rintro e w' ⟨rfl, rfl⟩
    go_wp2
    go_ret
    exact ⟨rfl, Below.refl _ _⟩

set_option maxRecDepth 100000 in
theorem lifted (os : Os) (started : os.Started) (H : Type) (enc : TypeId × Value → H) :
    ReturnsInHanded {} Try.checked os 8 .any (Rows.fnQueriesHideSpec.pre6 enc Try.prog Try.f8 Rows.fnQueriesHideRow.domain false) (Rows.fnQueriesHideSpec.post enc Try.prog Try.f8 false true false false) := by
  refine returnsInHanded_of_change (C := Try.checked) own_ started (by kernel_rfl) Try.func8
    (ChangeSpec.witness6 (enc := enc) (C := Try.checked) false ⟨#[], #[.slice none 0 0], []⟩ 8 (by kernel_rfl) (by kernel_rfl) (by kernel_rfl) (by kernel_rfl)) ?_
  intro W base args ds gs before hval0 hW hcnd _
  have hval : ∀ (j : Nat) t v, Try.f8.params[j]? = some t → args[j]? = some v → Value.okWide Try.prog W .any base t v := hval0
  have hW' := hW
  obtain ⟨p, q, hA0, hV, rfl, hfz, hnd⟩ := hW
  have hA : DataW.TrodAll enc Try.prog W 0 (fun _ => true) true Try.f8.params.toList args.toList ds p := hA0
  rw [Try.params8] at hA hval
  obtain ⟨v0, vs0, d0, ds0, p0, q0, hargs, rfl, rfl, h0, r0⟩ := trodAll_cons hA
  obtain ⟨rfl, rfl, rfl⟩ := trodAll_nil r0
  obtain rfl : args = #[v0] := by cases args; simp_all
  obtain ⟨rfl, rfl⟩ := trodVars_none hV
  have k0 := h0
  have lt0 : ∀ x ∈ p0, x.block < W.heap.size := by obtain ⟨m, hm⟩ := k0; exact DataW.trod_lt m _ _ _ hm
  obtain ⟨x0, y0⟩ := open_val Try.underlying22 (opens_slice Try.underlying22 (by kernel_rfl) (opens_u8 Try.underlying5)) (hval 0 22 v0 rfl rfl) h0
  clear hA0 hval0
  refine (walk W v0 x0 y0).mono fun e W' ⟨he, bel⟩ => ?_
  subst he
  exact ⟨_, rfl, _, _, _, [], _, [], hW', trodAll_mk1 (shut_bool Try.underlying4 _), (trodAll_cons_mk (Below.trod laid_ (by kernel_rfl) (of_decide_eq_true (by kernel_rfl)) k0 bel lt0) trodAll_mk0), rfl, bel.frame _, fun h => by cases h⟩

theorem over : Rows.fnQueriesHideRow.holds Try.pinned (OpenSpec.ofChange Rows.fnQueriesHideSpec) :=
  OpenClaim.holds_of_wide 8 Try.f8 rfl rfl rfl rfl rfl rfl rfl ⟨rfl, rfl, rfl, rfl, rfl⟩ rfl rfl rfl rfl rfl (by kernel_rfl) Try.func8 (by kernel_rfl)
    (of_decide_eq_true (by kernel_rfl)) (by unfold Func.isWrapper; first | (rw [if_pos (by decide +kernel)]; kernel_rfl) | (rw [if_neg (by decide +kernel)]; exact ⟨rfl, rfl⟩))
    (fun os started H enc _ => lifted os started H enc)

theorem proved : Rows.FnQueriesHideSaid := over
end Go.Proofs.Ytlnlkkgcfhngbaa.fnQueriesHide
