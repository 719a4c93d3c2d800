/- FnWritesHide, for every argument, no condition: the shares of all servers but one fit every row and every cell. -/
import Derived.Test.YtokhogdocaeelaaWrP
import Derived.Test.YtokhogdocaeelaaMw
import Derived.Test.YtokhogdocaeelaaEw
import Derived.Test.YtokhogdocaeelaaJw
import Derived.Test.YtokhogdocaeelaaAt
import Derived.Test.YtokhogdocaeelaaSame
import Derived.Test.YtokhogdocaeelaaShallow
import Derived.Test.YtokhogdocaeelaaElR
import Derived.Test.YtokhogdocaeelaaWh
import Derived.Deep.DeepCutAuto
import Derived.Deep.RegionHeld3
namespace Go.Proofs.Ytokhogdocaeelaa.fnWritesHide
set_option linter.unusedVariables false
open Go.RowKit Go.ChangeShapes Go.WideShapes Go.ChangeAt

def othW (l : List Db) (o : Nat) : List Db := l.take o ++ l.drop (o + 1)
theorem othW_all {n : Nat} {l : List Db} (h : ∀ x ∈ l, VD n x) (o : Nat) : ∀ x ∈ othW l o, VD n x := fun x hx => by
  rcases List.mem_append.1 hx with hx | hx
  · exact h x (List.mem_of_mem_take hx)
  · exact h x (List.mem_of_mem_drop hx)
theorem othW_len {l : List Db} {o : Nat} (h : l.length = 3) (ho : o < 3) : (othW l o).length = 2 := by
  unfold othW
  rw [List.length_append, List.length_take, List.length_drop]
  omega
theorem VD_tot {n : Nat} {l : List Db} (h : ∀ x ∈ l, VD n x) : totD l ≤ 1601 * l.length := by
  unfold totD sumT sumF
  induction l with
  | nil => simp
  | cons x t ih =>
    have h1 := db_tot (h x (by simp)).1
    have h2 := ih (fun y hy => h y (by simp [hy]))
    simp at *
    omega
set_option maxHeartbeats 4000000 in
set_option maxRecDepth 100000 in
theorem walk (w : World) (v0 : Value) (x0 : List UInt8) (y0 : Rd RB w v0 x0) :
    Calls Try.prog 4 #[v0] w fun e w' => e = .returned (.bool true) ∧ Below w.heap.size w w' := by
  by_cases hl : x0.length ≤ 1048576
  · obtain ⟨A, n, c, rfl, h'⟩ := y0
    have y0 : Rd RB w (.slice A n c) x0 := ⟨_, _, _, rfl, h'⟩
    clear h'
    have AT : Hid (∀ (i : Int) (W : World), Below w.heap.size w W → 0 ≤ i → i ≤ 1000000 → Calls Try.prog 19 #[.slice A n c, .int .i64 i] W fun e w' => e = .returned (.int .i64 (atI x0 i)) ∧ W = w') := Lib.hid (fun i W b h0 h1 => at_c _ x0 i W (Rd_reads RB_reads _ _ _ _ y0 b) hl h0 h1)
    have HB := Lib.hid (big_f _ x0 w y0 hl)
    clear y0 hl
    obtain ⟨a0, e0⟩ : ∃ a, atI x0 0 = a := ⟨_, rfl⟩
    obtain ⟨a1, e1⟩ : ∃ a, atI x0 1 = a := ⟨_, rfl⟩
    obtain ⟨a2, e2⟩ : ∃ a, atI x0 2 = a := ⟨_, rfl⟩
    obtain ⟨a3, e3⟩ : ∃ a, atI x0 3 = a := ⟨_, rfl⟩
    obtain ⟨a4, e4⟩ : ∃ a, atI x0 4 = a := ⟨_, rfl⟩
    obtain ⟨a5, e5⟩ : ∃ a, atI x0 5 = a := ⟨_, rfl⟩
    obtain ⟨a6, e6⟩ : ∃ a, atI x0 6 = a := ⟨_, rfl⟩
    have b0 := atI_bd x0 0
    have b1 := atI_bd x0 1
    have b2 := atI_bd x0 2
    have b3 := atI_bd x0 3
    have b4 := atI_bd x0 4
    have b5 := atI_bd x0 5
    have b6 := atI_bd x0 6
    rw [e0] at b0
    rw [e1] at b1
    rw [e2] at b2
    rw [e3] at b3
    rw [e4] at b4
    rw [e5] at b5
    rw [e6] at b6
    have AT0 := Lib.hid (fun W b => e0 ▸ AT.out 0 W b (by omega) (by omega))
    have AT1 := Lib.hid (fun W b => e1 ▸ AT.out 1 W b (by omega) (by omega))
    have AT2 := Lib.hid (fun W b => e2 ▸ AT.out 2 W b (by omega) (by omega))
    have AT3 := Lib.hid (fun W b => e3 ▸ AT.out 3 W b (by omega) (by omega))
    have AT4 := Lib.hid (fun W b => e4 ▸ AT.out 4 W b (by omega) (by omega))
    have AT5 := Lib.hid (fun W b => e5 ▸ AT.out 5 W b (by omega) (by omega))
    have AT6 := Lib.hid (fun W b => e6 ▸ AT.out 6 W b (by omega) (by omega))
    clear e0 e1 e2 e3 e4 e5 e6 AT
    obtain ⟨m, hm⟩ : ∃ m : Nat, a0 % 6 = (m : Int) := ⟨(a0 % 6).toNat, by omega⟩
    have hm6 : m < 6 := by omega
    have hcast : ((1 + m : Nat) : Int) = 1 + (m : Int) := by omega
    have htm0 : a0.tmod 6 = (m : Int) := by rw [Int.tmod_eq_emod_of_nonneg (by omega), hm]
    obtain ⟨j, hj⟩ : ∃ j : Nat, a1 % (1 + (m : Int)) = (j : Int) := ⟨(a1 % (1 + (m : Int))).toNat, by have := Int.emod_nonneg a1 (show (1 + (m : Int)) ≠ 0 by omega); omega⟩
    have hj2 : j < 1 + m := by have := Int.emod_lt_of_pos a1 (show 0 < (1 + (m : Int)) by omega); omega
    have htm1 : a1.tmod (1 + (m : Int)) = (j : Int) := by rw [Int.tmod_eq_emod_of_nonneg (by omega), hj]
    have hnz : (1 + (m : Int)) ≠ 0 := by omega
    obtain ⟨o, ho⟩ : ∃ o : Nat, a5 % 3 = (o : Int) := ⟨(a5 % 3).toNat, by omega⟩
    have ho3 : o < 3 := by omega
    have htm5 : a5.tmod 3 = (o : Int) := by rw [Int.tmod_eq_emod_of_nonneg (by omega), ho]
    have hw4 : IntKind.i64.wrap (a4 + 300) = a4 + 300 := IntWalk.i64_in _ (by omega)
    have hwm : IntKind.i64.wrap (1 + (m : Int)) = 1 + (m : Int) := IntWalk.i64_in _ (by omega)
    obtain ⟨cc, hcc⟩ : ∃ cc, streamI (khash a2 [73]) 24 = cc := ⟨_, rfl⟩
    have hcl : cc.length = 24 := by rw [← hcc]; exact st24 _
    have hu : uwOk ((1 + m : Nat) : Int) (j : Int) cc = true := by rw [uw_iff]; exact decide_eq_true ⟨by omega, by omega, hcl⟩
    have hlaw := mw_law (seeds := [a3, a4 + 300]) hu (by simp)
    obtain ⟨q, hq⟩ : ∃ q, mw ((1 + m : Nat) : Int) (j : Int) cc [a3, a4 + 300] = q := ⟨_, rfl⟩
    rw [hq] at hlaw
    have hq3 : q.length = 3 := hlaw.1
    have HQ := Lib.hid hlaw.2.1
    have CV := Lib.hid (fun W => specCoverCell_c a2 W)
    rw [hcc] at CV
    have MW : Hid (∀ W vc vs, Rd RB W vc cc → Rd RI W vs [a3, a4 + 300] → Calls Try.prog 14 #[.int .i64 (1 + (m : Int)), .int .i64 (j : Int), vc, vs] W fun e w' => ∃ v', e = .returned v' ∧ Fresh ODB W w' v' q) := Lib.hid (fun W vc vs h1 h2 => by
      have := implMw_c (1 + (m : Int)) (j : Int) vc cc vs [a3, a4 + 300] W h1 h2 (by simp) (by omega) (by omega) (by omega) (by omega) (by omega)
      rwa [← hcast, hq] at this)
    clear hlaw hu hq hcc hcl hm hj ho
    go_enter Try.func4, Try.ntmps4
    go_wp2_with fail
    refine HB.out.mono ?_
    rintro e w' ⟨rfl, rfl⟩
    go_wp2_with fail
    refine (AT0.out _ (Below.refl _ _)).mono ?_
    rintro e w' ⟨rfl, rfl⟩
    go_wp2_with fail
    have tL := (Below.refl w.heap.size w).drew
    go_region_held3 (fun _ => True)
      (first | trivial | go_keep)
      (first
      | (go_at_call_of 19 (Value.int .i64 1); refine (AT1.out _ tL).mono ?_; rintro e w' ⟨rfl, rfl⟩)
      | (go_at_call_of 19 (Value.int .i64 2); refine (AT2.out _ tL).mono ?_; rintro e w' ⟨rfl, rfl⟩)
      | (go_at_call_of 19 (Value.int .i64 3); refine (AT3.out _ tL).mono ?_; rintro e w' ⟨rfl, rfl⟩)
      | (go_at_call_of 19 (Value.int .i64 4); refine (AT4.out _ tL).mono ?_; rintro e w' ⟨rfl, rfl⟩)
      | (go_at_call 25; refine (CV.out _).mono ?_; rintro e w1 ⟨v1, rfl, F1⟩; have tL := tL.trans (F1.below.mono tL.size); have r1 := (F1.iv (Own_good FB_good)).rd (R' := RB) (fun q => q.rb))
      | (go_at_call 14; refine (MW.out _ _ _ (Rd_reads RB_reads _ _ _ _ r1 (below_alloc w1 (.cells #[.int .i64 a3, .int .i64 (a4 + 300)] 3))) (rd_rowI (Row_lit (E := 3) (B := w1.heap.size) w1 #[.int .i64 a3, .int .i64 (a4 + 300)] (Nat.le_refl _) (by simp [maxLen])).1 rfl)).mono ?_; rintro e w2 ⟨v2, rfl, F2⟩; have tL := (tL.alloc tL.size (.cells #[.int .i64 a3, .int .i64 (a4 + 300)] 3)).trans (F2.below.mono (tL.alloc tL.size (.cells #[.int .i64 a3, .int .i64 (a4 + 300)] 3)).size)))
    obtain ⟨Aq, nq, cq, rfl⟩ := fresh_slice F2
    have hrq := (rd_dbs (F2.iv ODB_good)).at_same
    obtain rfl : 3 = nq := hq3.symm.trans hrq.1
    obtain ⟨bq, oq, rfl, hbq, _⟩ := hrq.2.2.2 (by omega)
    have hcq := hrq.2.1
    obtain ⟨cells, hsrc, hzip⟩ := hrq.src_zip
    have SR := Lib.hid hsrc
    have ONE : Hid (∀ u ∈ cells, u.oneCell' = true) := Lib.hid (fun u hu => by
      obtain ⟨k, hk⟩ := List.mem_iff_getElem?.1 hu
      have hkl : k < q.length := by have := (List.getElem?_eq_some_iff.1 hk).1; rw [hzip.1] at this; exact this
      obtain ⟨_, _, _, rfl, _⟩ := hzip.2 k u _ hk (List.getElem?_eq_getElem hkl)
      rfl)
    have ZP := Lib.hid hzip
    have T1 := tL
    clear F1 F2 r1 tL hrq hsrc hzip MW CV
    go_wp2_with fail
    refine (AT5.out _ T1).mono ?_
    rintro e w' ⟨rfl, rfl⟩
    have ho4 : o ≤ cq := by omega
    have ho5 : (o : Int) + 1 ≤ 3 := by omega
    have r0 : Row 31 w2.heap.size (w2.drew.alloc (.cells #[] 31)) (.slice (some ⟨w2.heap.size, 0, none⟩) 0 0) 0 [] := Row_lit (E := 31) (B := w2.heap.size) w2.drew #[] (Nat.le_refl _) (by simp)
    have bD : Below w2.heap.size w2 (w2.drew.alloc (.cells #[] 31)) := ((Below.refl w2.heap.size w2).drew).alloc (Nat.le_refl _) _
    have HOWN := r0.1
    have hw1 : IntKind.i64.wrap ((o : Int) + 1) = ((o + 1 : Nat) : Int) := by rw [IntWalk.i64_in _ (by omega)]; omega
    have hw2 : (0 : Int) ≤ (o : Int) + 1 := by omega
    have HSRC : Src (w2.drew.alloc (.cells #[] 31)) (some ⟨bq, oq, none⟩) o (cells.take o) := (SR.out.take_ (by omega)).below (Or.inr ⟨_, _, rfl, hbq⟩) bD
    have OL : Hid (∀ cs : List Value, cs.length = q.length → (cs.take o ++ cs.drop (o + 1)).length = 0 + o + (2 - o)) := Lib.hid (fun cs h => by rw [List.length_append, List.length_take, List.length_drop, h, hq3]; omega)
    go_wp2_with fail
    go_region_law (first
      | (refine step_appS elD (by rfl) _ _ (by rfl) (.slice (some ⟨w2.heap.size, 0, none⟩) 0 0) 0 [] (by rfl) HOWN (some ⟨bq, oq, none⟩) o cq (cells.take o) (by rfl) HSRC (fun u hu => ONE.out u (List.mem_of_mem_take hu)) (by simp only [maxLen]; omega) (by omega) ?_; intro v4 w4 hown hg hat; obtain ⟨A4, l4, c4, rfl⟩ := own_shape hown; have P4 := r0.app0 bD (by simp) hown hg hat; have HOWN2 := P4.1.1; have HSRC2 : Src w4 (if cq = o + 1 then some ⟨bq, oq, none⟩ else some ⟨bq, oq + (o + 1), none⟩) (2 - o) (cells.drop (o + 1)) := src_cut2 SR.out (by omega) (by omega) hcq hbq P4.2; clear hown hg hat)
      | (refine step_appS elD (by rfl) _ _ (by rfl) (.slice A4 l4 c4) (0 + o) ([] ++ cells.take o) (by rfl) HOWN2 (if cq = o + 1 then some ⟨bq, oq, none⟩ else some ⟨bq, oq + (o + 1), none⟩) (2 - o) (cq - (o + 1)) (cells.drop (o + 1)) (by rfl) HSRC2 (fun u hu => ONE.out u (List.mem_of_mem_drop hu)) (by simp only [maxLen]; omega) (by omega) ?_; intro v5 w5 hown hg hat; obtain ⟨A5, l5, c5, rfl⟩ := own_shape hown; have P5 := P4.1.app0 P4.2 (by have := P4.2.size; omega) hown hg hat; clear hown hg hat))
    all_goals
      have RO := rd_zip (R := Rd (Rd RB)) P5.1.1 (by rw [List.nil_append]; exact (OL.out cells ZP.out.1)) (((ZP.out.take o).app (ZP.out.drop (o + 1))).below (Rd_reads (Rd_reads RB_reads)) P5.2)
      have T5 := T1.trans (P5.2.mono T1.size)
      clear P4 P5 HOWN2 HSRC2 HOWN HSRC r0 bD
      generalize (if cq = o + 1 then (some ⟨bq, oq, none⟩ : Option Addr) else some ⟨bq, oq + (o + 1), none⟩) = AX at *
      have HO := Lib.hid (othW_all HQ.out o)
      have RO' : Rd (Rd (Rd RB)) w5 (.slice A5 l5 c5) (othW q o) := RO
      have hl5 : l5 = 2 := (RO'.at_same.1.symm).trans (othW_len hq3 ho3)
      subst hl5
      have HL := Lib.hid (othW_len hq3 ho3)
      obtain ⟨bo, oo, rfl, hbo, _⟩ := RO'.at_same.2.2.2 (by omega)
      have RB5 := Lib.hid RO'
      clear RO RO' SR ZP ONE OL HQ T1
      go_wp2
      go_loopw [7] (fun i wr => ∃ k : Nat, k ≤ 1 + m ∧ i = .int .i64 k ∧ Below w5.heap.size w5 wr) (fun i _ => 1 + m - (intOf i).toNat)
      case atStart => exact ⟨0, Nat.zero_le _, rfl, Below.refl _ _⟩
      case round =>
        obtain ⟨k, hk, rfl, hb⟩ := hrel
        by_cases hlt : k < 1 + m
        · have hkn : (k : Int) < 1 + (m : Int) := by omega
          have hwk : IntKind.i64.wrap (a6 + (k : Int)) = a6 + (k : Int) := IntWalk.i64_in _ (by omega)
          obtain ⟨ck, hck⟩ : ∃ ck, streamI (khash (a6 + (k : Int)) [73]) 24 = ck := ⟨_, rfl⟩
          have hckl : ck.length = 24 := by rw [← hck]; exact st24 _
          have hu : uwOk ((1 + m : Nat) : Int) (k : Int) ck = true := by rw [uw_iff]; exact decide_eq_true ⟨by omega, by omega, hckl⟩
          obtain ⟨x, hex, hxv, hjx⟩ := ew_law hu HO.out (by rw [HL.out]; omega) (by rw [HL.out]; omega)
          have CVK := Lib.hid (fun W => specCoverCell_c (a6 + (k : Int)) W)
          rw [hck] at CVK
          have EW : Hid (∀ W vc, Below w5.heap.size w5 W → Rd RB W vc ck → Calls Try.prog 26 #[.slice (some ⟨bo, oo, none⟩) 2 c5, .int .i64 (1 + (m : Int)), .int .i64 (k : Int), vc] W fun e w' => ∃ A n c, e = .returned (.tuple #[.agg #[.slice A n c], .bool true]) ∧ Fresh OBB W w' (.slice A n c) x) := Lib.hid (fun W vc hW h2 => by
            have := implEw_c (.slice (some ⟨bo, oo, none⟩) 2 c5) (othW q o) (1 + (m : Int)) (k : Int) vc ck true W (Rd_reads (Rd_reads (Rd_reads RB_reads)) _ _ _ _ RB5.out hW) h2 (Lib.hid (by rw [← hcast, hex]; rfl)) (by have := VD_tot HO.out; rw [HL.out] at this; omega) (by omega) (by omega) (by omega) (by omega) (by omega)
            rwa [← hcast, hex] at this)
          have HXV := Lib.hid hxv
          have HJX := Lib.hid hjx
          have HU := Lib.hid hu
          clear hck hckl hex hxv hjx hu
          go_wp2_with fail
          refine (AT6.out _ (T5.trans (hb.mono T5.size))).mono ?_
          rintro e w' ⟨rfl, rfl⟩
          go_wp2_with fail
          refine (CVK.out _).mono ?_
          rintro e w6 ⟨v6, rfl, F6⟩
          have r6 := (F6.iv (Own_good FB_good)).rd (R' := RB) (fun q => q.rb)
          have T6 := hb.trans (F6.below.mono hb.size)
          clear F6 CVK
          go_wp2_with fail
          refine (EW.out _ _ T6 r6).mono ?_
          rintro e w7 ⟨A7, l7, c7, rfl, F7⟩
          have T7 := T6.trans (F7.below.mono T6.size)
          have b9 := below_alloc w7 (.cells #[.slice A7 l7 c7] 31)
          have T9 := T7.trans (b9.mono T7.size)
          have HS : Hid (∀ W, Below (w7.alloc (.cells #[.slice A7 l7 c7] 31)).heap.size (w7.alloc (.cells #[.slice A7 l7 c7] 31)) W → W.cell? ⟨w7.heap.size, 0, none⟩ = some (.slice A7 l7 c7)) := Lib.hid (fun W hW => ((Box.new w7 31 #[.slice A7 l7 c7]).below hW (Box.new w7 31 #[.slice A7 l7 c7]).lt).cell 0)
          have rx := Rd_reads (Rd_reads RB_reads) _ _ _ _ (rd_db (F7.iv OBB_good)) b9
          have ro := Rd_reads (Rd_reads (Rd_reads RB_reads)) _ _ _ _ RB5.out T9
          obtain ⟨cs, hsrc, hzip⟩ := ro.at_same.src_zip
          have hbo9 : bo < (w7.alloc (.cells #[.slice A7 l7 c7] 31)).heap.size := Nat.lt_of_lt_of_le hbo T9.size
          have ONE : Hid (∀ u ∈ cs, u.oneCell' = true) := Lib.hid (fun u hu => by
            obtain ⟨k, hk⟩ := List.mem_iff_getElem?.1 hu
            have hkl : k < (othW q o).length := by have := (List.getElem?_eq_some_iff.1 hk).1; rw [hzip.1] at this; exact this
            obtain ⟨_, _, _, rfl, _⟩ := hzip.2 k u _ hk (List.getElem?_eq_getElem hkl)
            rfl)
          have SR : Hid (∀ W, Below (w7.alloc (.cells #[.slice A7 l7 c7] 31)).heap.size (w7.alloc (.cells #[.slice A7 l7 c7] 31)) W → Src W (some ⟨bo, oo, none⟩) 2 cs) := Lib.hid (fun W hW => hsrc.below (Or.inr ⟨_, _, rfl, hbo9⟩) hW)
          have ZA : Hid (∀ W, Below (w7.alloc (.cells #[.slice A7 l7 c7] 31)).heap.size (w7.alloc (.cells #[.slice A7 l7 c7] 31)) W → Zip (Rd (Rd RB)) W (([] ++ cs) ++ [.slice A7 l7 c7]) (othW q o ++ [x])) := Lib.hid (fun W hW => ((show Zip (Rd (Rd RB)) _ ([] ++ cs) (othW q o) from hzip).app (Zip.one rx)).below (Rd_reads (Rd_reads RB_reads)) hW)
          have ZL : Hid ((([] ++ cs) ++ [Value.slice A7 l7 c7]).length = 0 + 2 + 1) := Lib.hid (by have h1 := hzip.1; have h2 := HL.out; rw [h2] at h1; simp [h1])
          obtain ⟨U, hU⟩ : ∃ U, uwV ((1 + m : Nat) : Int) (k : Int) ck = U := ⟨_, rfl⟩
          have hget := uw_get HU.out
          have hcnt := uw_cnt HU.out
          have hjx := HJX.out
          rw [hU] at hget hcnt hjx
          have JW : Hid (∀ W v, Rd (Rd (Rd RB)) W v (othW q o ++ [x]) → Calls Try.prog 16 #[v] W fun e w' => ∃ A n c, e = .returned (.tuple #[.agg #[.slice A n c], .bool true]) ∧ Fresh OBB W w' (.slice A n c) U) := Lib.hid (fun W v hv => by
            have hall : ∀ z ∈ othW q o ++ [x], VD (1 + m) z := fun z hz => by
              rcases List.mem_append.1 hz with hz | hz
              · exact HO.out z hz
              · simp at hz; rw [hz]; exact HXV.out
            have ht := VD_tot hall
            rw [List.length_append, HL.out] at ht
            have := implJw_c v (othW q o ++ [x]) true W hv (Lib.hid (by rw [hjx]; rfl)) (Nat.le_trans ht (by simp))
            rw [hjx] at this
            exact this)
          have R6 := Lib.hid r6
          have HGET := Lib.hid hget
          have HUVD := Lib.hid (show VD (1 + m) U by rw [← hU]; exact uw_VD HU.out)
          have T6H := Lib.hid T6
          have b67 := F7.below.trans (b9.mono F7.below.size)
          have RK := Lib.hid (Rd_reads RB_reads _ _ _ _ r6 b67)
          have T9H := Lib.hid T9
          clear b9 b67 F7 rx ro hsrc hzip T6 T7 T9 r6 hjx hget HJX HXV EW
          go_upto_region 14 with (fail)
          generalize w7.alloc (.cells #[.slice A7 l7 c7] 31) = W0 at *
          generalize w7.heap.size = g9 at *
          have ks0 := HS.out _ (Below.refl W0.heap.size W0).drew
          go_cut [11, 12] (fun p_ b_ wx_ => CutW W0 U p_ b_ wx_)
          case first =>
            have ks1 := HS.out _ (bel1 W0 (.cells #[] 31))
            have ks2 := HS.out _ (bel1 W0 (.cells #[.slice none 0 0] 31))
            have ks3 := HS.out _ (bel2 W0 (.cells #[] 31) (.cells #[.slice none 0 0] 31))
            have ks4 := HS.out _ (bel2 W0 (.cells #[.slice none 0 0] 31) (.cells #[] 31))
            go_region_held3 (fun W => W.cell? ⟨g9, 0, none⟩ = some (.slice A7 l7 c7))
              (first | assumption | exact HS.out _ (bel1 _ _) | exact HS.out _ (bel2 _ _ _) | exact HS.out _ (bel3 _ _ _ _) | go_keep)
              (first
            | (refine step_appS elD (by rfl) _ _ (by rfl) (.slice (some ⟨W0.heap.size, 0, none⟩) 0 0) 0 [] (by rfl) (own_box (by first | exact bx10 _ _ _ | exact bx20 _ _ _ _ | exact bx21 _ _ _ _ | exact bx30 _ _ _ _ _ | exact bx31 _ _ _ _ _ | exact bx32 _ _ _ _ _)) (some ⟨bo, oo, none⟩) 2 c5 cs (by rfl) (SR.out _ (by first | exact bel1 _ _ | exact bel2 _ _ _ | exact bel3 _ _ _ _)) ONE.out (by simp only [maxLen]; omega) (by omega) ?_; intro v8 w8 hown hg hat; obtain ⟨A8, l8, c8, rfl⟩ := own_shape hown; have B8 := Lib.hid (grow_bel (W0 := W0) hg (by first | exact bel1 _ _ | exact bel2 _ _ _ | exact bel3 _ _ _ _) (fun k hk => by have e2 : W0.heap.size = k := Option.some.inj hk; omega)); have L8 := Lib.hid (grow_low (W0 := W0) hat (by first | exact bel1 _ _ | exact bel2 _ _ _ | exact bel3 _ _ _ _) (fun k hk => by have e2 : W0.heap.size = k := Option.some.inj hk; omega)); have O8 := Lib.hid hown; have ks8 := HS.out _ B8.out; have ks8a := HS.out _ (B8.out.alloc B8.out.size (.cells #[.slice A7 l7 c7] 31)); have ks8b := HS.out _ (B8.out.alloc B8.out.size (.cells #[.slice none 0 0] 31)); have ks8c := HS.out _ ((B8.out.alloc B8.out.size (.cells #[.slice A7 l7 c7] 31)).alloc (by have := B8.out.size; simp; omega) (.cells #[.slice none 0 0] 31)); have ks8d := HS.out _ ((B8.out.alloc B8.out.size (.cells #[.slice none 0 0] 31)).alloc (by have := B8.out.size; simp; omega) (.cells #[.slice A7 l7 c7] 31)); (first | (have BC := Lib.hid (grow_box (g := W0.heap.size + 1) (cs := #[.slice A7 l7 c7]) hg (by first | exact bx10 _ _ _ | exact bx20 _ _ _ _ | exact bx21 _ _ _ _ | exact bx30 _ _ _ _ _ | exact bx31 _ _ _ _ _ | exact bx32 _ _ _ _ _) (by intro e; have e2 : W0.heap.size + 1 = W0.heap.size := Option.some.inj e; omega))) | (have BC := Lib.hid (grow_box (g := W0.heap.size + 2) (cs := #[.slice A7 l7 c7]) hg (by first | exact bx10 _ _ _ | exact bx20 _ _ _ _ | exact bx21 _ _ _ _ | exact bx30 _ _ _ _ _ | exact bx31 _ _ _ _ _ | exact bx32 _ _ _ _ _) (by intro e; have e2 : W0.heap.size + 2 = W0.heap.size := Option.some.inj e; omega))) | skip); (first | (have BF := Lib.hid (And.intro (grow_box (g := W0.heap.size + 1) (cs := #[.slice none 0 0]) hg (by first | exact bx10 _ _ _ | exact bx20 _ _ _ _ | exact bx21 _ _ _ _ | exact bx30 _ _ _ _ _ | exact bx31 _ _ _ _ _ | exact bx32 _ _ _ _ _) (by intro e; have e2 : W0.heap.size + 1 = W0.heap.size := Option.some.inj e; omega)) (And.intro (grow_ne (g := W0.heap.size + 1) (T := 31) (cs := #[.slice none 0 0]) hat (by first | exact bx10 _ _ _ | exact bx20 _ _ _ _ | exact bx21 _ _ _ _ | exact bx30 _ _ _ _ _ | exact bx31 _ _ _ _ _ | exact bx32 _ _ _ _ _) (by intro e; have e2 : W0.heap.size + 1 = W0.heap.size := Option.some.inj e; omega)) (show W0.heap.size ≤ W0.heap.size + 1 by omega)))) | (have BF := Lib.hid (And.intro (grow_box (g := W0.heap.size + 2) (cs := #[.slice none 0 0]) hg (by first | exact bx10 _ _ _ | exact bx20 _ _ _ _ | exact bx21 _ _ _ _ | exact bx30 _ _ _ _ _ | exact bx31 _ _ _ _ _ | exact bx32 _ _ _ _ _) (by intro e; have e2 : W0.heap.size + 2 = W0.heap.size := Option.some.inj e; omega)) (And.intro (grow_ne (g := W0.heap.size + 2) (T := 31) (cs := #[.slice none 0 0]) hat (by first | exact bx10 _ _ _ | exact bx20 _ _ _ _ | exact bx21 _ _ _ _ | exact bx30 _ _ _ _ _ | exact bx31 _ _ _ _ _ | exact bx32 _ _ _ _ _) (by intro e; have e2 : W0.heap.size + 2 = W0.heap.size := Option.some.inj e; omega)) (show W0.heap.size ≤ W0.heap.size + 2 by omega)))) | skip); clear hown hg hat)
            | (refine step_appS elD (by rfl) _ _ (by rfl) (.slice (some ⟨W0.heap.size + 1, 0, none⟩) 0 0) 0 [] (by rfl) (own_box (by first | exact bx10 _ _ _ | exact bx20 _ _ _ _ | exact bx21 _ _ _ _ | exact bx30 _ _ _ _ _ | exact bx31 _ _ _ _ _ | exact bx32 _ _ _ _ _)) (some ⟨bo, oo, none⟩) 2 c5 cs (by rfl) (SR.out _ (by first | exact bel1 _ _ | exact bel2 _ _ _ | exact bel3 _ _ _ _)) ONE.out (by simp only [maxLen]; omega) (by omega) ?_; intro v8 w8 hown hg hat; obtain ⟨A8, l8, c8, rfl⟩ := own_shape hown; have B8 := Lib.hid (grow_bel (W0 := W0) hg (by first | exact bel1 _ _ | exact bel2 _ _ _ | exact bel3 _ _ _ _) (fun k hk => by have e2 : W0.heap.size + 1 = k := Option.some.inj hk; omega)); have L8 := Lib.hid (grow_low (W0 := W0) hat (by first | exact bel1 _ _ | exact bel2 _ _ _ | exact bel3 _ _ _ _) (fun k hk => by have e2 : W0.heap.size + 1 = k := Option.some.inj hk; omega)); have O8 := Lib.hid hown; have ks8 := HS.out _ B8.out; have ks8a := HS.out _ (B8.out.alloc B8.out.size (.cells #[.slice A7 l7 c7] 31)); have ks8b := HS.out _ (B8.out.alloc B8.out.size (.cells #[.slice none 0 0] 31)); have ks8c := HS.out _ ((B8.out.alloc B8.out.size (.cells #[.slice A7 l7 c7] 31)).alloc (by have := B8.out.size; simp; omega) (.cells #[.slice none 0 0] 31)); have ks8d := HS.out _ ((B8.out.alloc B8.out.size (.cells #[.slice none 0 0] 31)).alloc (by have := B8.out.size; simp; omega) (.cells #[.slice A7 l7 c7] 31)); (first | (have BC := Lib.hid (grow_box (g := W0.heap.size) (cs := #[.slice A7 l7 c7]) hg (by first | exact bx10 _ _ _ | exact bx20 _ _ _ _ | exact bx21 _ _ _ _ | exact bx30 _ _ _ _ _ | exact bx31 _ _ _ _ _ | exact bx32 _ _ _ _ _) (by intro e; have e2 : W0.heap.size = W0.heap.size + 1 := Option.some.inj e; omega))) | (have BC := Lib.hid (grow_box (g := W0.heap.size + 2) (cs := #[.slice A7 l7 c7]) hg (by first | exact bx10 _ _ _ | exact bx20 _ _ _ _ | exact bx21 _ _ _ _ | exact bx30 _ _ _ _ _ | exact bx31 _ _ _ _ _ | exact bx32 _ _ _ _ _) (by intro e; have e2 : W0.heap.size + 2 = W0.heap.size + 1 := Option.some.inj e; omega))) | skip); (first | (have BF := Lib.hid (And.intro (grow_box (g := W0.heap.size) (cs := #[.slice none 0 0]) hg (by first | exact bx10 _ _ _ | exact bx20 _ _ _ _ | exact bx21 _ _ _ _ | exact bx30 _ _ _ _ _ | exact bx31 _ _ _ _ _ | exact bx32 _ _ _ _ _) (by intro e; have e2 : W0.heap.size = W0.heap.size + 1 := Option.some.inj e; omega)) (And.intro (grow_ne (g := W0.heap.size) (T := 31) (cs := #[.slice none 0 0]) hat (by first | exact bx10 _ _ _ | exact bx20 _ _ _ _ | exact bx21 _ _ _ _ | exact bx30 _ _ _ _ _ | exact bx31 _ _ _ _ _ | exact bx32 _ _ _ _ _) (by intro e; have e2 : W0.heap.size = W0.heap.size + 1 := Option.some.inj e; omega)) (show W0.heap.size ≤ W0.heap.size by omega)))) | (have BF := Lib.hid (And.intro (grow_box (g := W0.heap.size + 2) (cs := #[.slice none 0 0]) hg (by first | exact bx10 _ _ _ | exact bx20 _ _ _ _ | exact bx21 _ _ _ _ | exact bx30 _ _ _ _ _ | exact bx31 _ _ _ _ _ | exact bx32 _ _ _ _ _) (by intro e; have e2 : W0.heap.size + 2 = W0.heap.size + 1 := Option.some.inj e; omega)) (And.intro (grow_ne (g := W0.heap.size + 2) (T := 31) (cs := #[.slice none 0 0]) hat (by first | exact bx10 _ _ _ | exact bx20 _ _ _ _ | exact bx21 _ _ _ _ | exact bx30 _ _ _ _ _ | exact bx31 _ _ _ _ _ | exact bx32 _ _ _ _ _) (by intro e; have e2 : W0.heap.size + 2 = W0.heap.size + 1 := Option.some.inj e; omega)) (show W0.heap.size ≤ W0.heap.size + 2 by omega)))) | skip); clear hown hg hat)
            | (refine step_appS elD (by rfl) _ _ (by rfl) (.slice (some ⟨W0.heap.size + 2, 0, none⟩) 0 0) 0 [] (by rfl) (own_box (by first | exact bx10 _ _ _ | exact bx20 _ _ _ _ | exact bx21 _ _ _ _ | exact bx30 _ _ _ _ _ | exact bx31 _ _ _ _ _ | exact bx32 _ _ _ _ _)) (some ⟨bo, oo, none⟩) 2 c5 cs (by rfl) (SR.out _ (by first | exact bel1 _ _ | exact bel2 _ _ _ | exact bel3 _ _ _ _)) ONE.out (by simp only [maxLen]; omega) (by omega) ?_; intro v8 w8 hown hg hat; obtain ⟨A8, l8, c8, rfl⟩ := own_shape hown; have B8 := Lib.hid (grow_bel (W0 := W0) hg (by first | exact bel1 _ _ | exact bel2 _ _ _ | exact bel3 _ _ _ _) (fun k hk => by have e2 : W0.heap.size + 2 = k := Option.some.inj hk; omega)); have L8 := Lib.hid (grow_low (W0 := W0) hat (by first | exact bel1 _ _ | exact bel2 _ _ _ | exact bel3 _ _ _ _) (fun k hk => by have e2 : W0.heap.size + 2 = k := Option.some.inj hk; omega)); have O8 := Lib.hid hown; have ks8 := HS.out _ B8.out; have ks8a := HS.out _ (B8.out.alloc B8.out.size (.cells #[.slice A7 l7 c7] 31)); have ks8b := HS.out _ (B8.out.alloc B8.out.size (.cells #[.slice none 0 0] 31)); have ks8c := HS.out _ ((B8.out.alloc B8.out.size (.cells #[.slice A7 l7 c7] 31)).alloc (by have := B8.out.size; simp; omega) (.cells #[.slice none 0 0] 31)); have ks8d := HS.out _ ((B8.out.alloc B8.out.size (.cells #[.slice none 0 0] 31)).alloc (by have := B8.out.size; simp; omega) (.cells #[.slice A7 l7 c7] 31)); (first | (have BC := Lib.hid (grow_box (g := W0.heap.size) (cs := #[.slice A7 l7 c7]) hg (by first | exact bx10 _ _ _ | exact bx20 _ _ _ _ | exact bx21 _ _ _ _ | exact bx30 _ _ _ _ _ | exact bx31 _ _ _ _ _ | exact bx32 _ _ _ _ _) (by intro e; have e2 : W0.heap.size = W0.heap.size + 2 := Option.some.inj e; omega))) | (have BC := Lib.hid (grow_box (g := W0.heap.size + 1) (cs := #[.slice A7 l7 c7]) hg (by first | exact bx10 _ _ _ | exact bx20 _ _ _ _ | exact bx21 _ _ _ _ | exact bx30 _ _ _ _ _ | exact bx31 _ _ _ _ _ | exact bx32 _ _ _ _ _) (by intro e; have e2 : W0.heap.size + 1 = W0.heap.size + 2 := Option.some.inj e; omega))) | skip); (first | (have BF := Lib.hid (And.intro (grow_box (g := W0.heap.size) (cs := #[.slice none 0 0]) hg (by first | exact bx10 _ _ _ | exact bx20 _ _ _ _ | exact bx21 _ _ _ _ | exact bx30 _ _ _ _ _ | exact bx31 _ _ _ _ _ | exact bx32 _ _ _ _ _) (by intro e; have e2 : W0.heap.size = W0.heap.size + 2 := Option.some.inj e; omega)) (And.intro (grow_ne (g := W0.heap.size) (T := 31) (cs := #[.slice none 0 0]) hat (by first | exact bx10 _ _ _ | exact bx20 _ _ _ _ | exact bx21 _ _ _ _ | exact bx30 _ _ _ _ _ | exact bx31 _ _ _ _ _ | exact bx32 _ _ _ _ _) (by intro e; have e2 : W0.heap.size = W0.heap.size + 2 := Option.some.inj e; omega)) (show W0.heap.size ≤ W0.heap.size by omega)))) | (have BF := Lib.hid (And.intro (grow_box (g := W0.heap.size + 1) (cs := #[.slice none 0 0]) hg (by first | exact bx10 _ _ _ | exact bx20 _ _ _ _ | exact bx21 _ _ _ _ | exact bx30 _ _ _ _ _ | exact bx31 _ _ _ _ _ | exact bx32 _ _ _ _ _) (by intro e; have e2 : W0.heap.size + 1 = W0.heap.size + 2 := Option.some.inj e; omega)) (And.intro (grow_ne (g := W0.heap.size + 1) (T := 31) (cs := #[.slice none 0 0]) hat (by first | exact bx10 _ _ _ | exact bx20 _ _ _ _ | exact bx21 _ _ _ _ | exact bx30 _ _ _ _ _ | exact bx31 _ _ _ _ _ | exact bx32 _ _ _ _ _) (by intro e; have e2 : W0.heap.size + 1 = W0.heap.size + 2 := Option.some.inj e; omega)) (show W0.heap.size ≤ W0.heap.size + 1 by omega)))) | skip); clear hown hg hat)
            | (refine step_appS elD (by rfl) _ _ (by rfl) (.slice A8 l8 c8) (0 + 2) ([] ++ cs) (by rfl) (by first | exact O8.out | exact O8.out.alloc _ | exact (O8.out.alloc _).alloc _) (some ⟨W0.heap.size, 0, none⟩) 1 1 [.slice A7 l7 c7] (by rfl) (by first | exact src_box BC.out | exact src_box (BC.out.alloc _) | exact src_box ((BC.out.alloc _).alloc _)) (one_single _ rfl) (by simp only [maxLen]; omega) (by omega) ?_; intro v9 w9 hown hg hat; obtain ⟨A9, l9, c9, rfl⟩ := own_shape hown; have B9 := Lib.hid (grow_bel (W0 := W0) hg (by first | exact B8.out | exact B8.out.alloc B8.out.size _ | exact (B8.out.alloc B8.out.size _).alloc (by have := B8.out.size; simp; omega) _) L8.out); have RJ := Lib.hid (rd_zip (R := Rd (Rd RB)) hown (by rw [ZL.out]) (ZA.out _ B9.out)); have ks9 := HS.out _ B9.out; have ks9a := HS.out _ (B9.out.alloc B9.out.size (.cells #[.slice none 0 0] 31)); (first | (have BF9 := Lib.hid (And.intro (grow_box (cs := #[.slice none 0 0]) hg (by first | exact BF.out.1 | exact BF.out.1.alloc _ | exact (BF.out.1.alloc _).alloc _) BF.out.2.1) BF.out.2.2)) | (have BF9 := Lib.hid (And.intro (grow_box (g := w8.heap.size) (cs := #[.slice none 0 0]) hg (by first | exact bn1 _ _ _ | exact bn20 _ _ _ _ | exact bn21 _ _ _ _) (own_ne O8.out (by omega))) (show W0.heap.size ≤ w8.heap.size by have := B8.out.size; omega))) | (have BF9 := Lib.hid (And.intro (grow_box (g := w8.heap.size + 1) (cs := #[.slice none 0 0]) hg (by first | exact bn1 _ _ _ | exact bn20 _ _ _ _ | exact bn21 _ _ _ _) (own_ne O8.out (by omega))) (show W0.heap.size ≤ w8.heap.size + 1 by have := B8.out.size; omega))) | skip); clear hown hg hat)
            | (refine step_appS elD (by rfl) _ _ (by rfl) (.slice A8 l8 c8) (0 + 2) ([] ++ cs) (by rfl) (by first | exact O8.out | exact O8.out.alloc _ | exact (O8.out.alloc _).alloc _) (some ⟨W0.heap.size + 1, 0, none⟩) 1 1 [.slice A7 l7 c7] (by rfl) (by first | exact src_box BC.out | exact src_box (BC.out.alloc _) | exact src_box ((BC.out.alloc _).alloc _)) (one_single _ rfl) (by simp only [maxLen]; omega) (by omega) ?_; intro v9 w9 hown hg hat; obtain ⟨A9, l9, c9, rfl⟩ := own_shape hown; have B9 := Lib.hid (grow_bel (W0 := W0) hg (by first | exact B8.out | exact B8.out.alloc B8.out.size _ | exact (B8.out.alloc B8.out.size _).alloc (by have := B8.out.size; simp; omega) _) L8.out); have RJ := Lib.hid (rd_zip (R := Rd (Rd RB)) hown (by rw [ZL.out]) (ZA.out _ B9.out)); have ks9 := HS.out _ B9.out; have ks9a := HS.out _ (B9.out.alloc B9.out.size (.cells #[.slice none 0 0] 31)); (first | (have BF9 := Lib.hid (And.intro (grow_box (cs := #[.slice none 0 0]) hg (by first | exact BF.out.1 | exact BF.out.1.alloc _ | exact (BF.out.1.alloc _).alloc _) BF.out.2.1) BF.out.2.2)) | (have BF9 := Lib.hid (And.intro (grow_box (g := w8.heap.size) (cs := #[.slice none 0 0]) hg (by first | exact bn1 _ _ _ | exact bn20 _ _ _ _ | exact bn21 _ _ _ _) (own_ne O8.out (by omega))) (show W0.heap.size ≤ w8.heap.size by have := B8.out.size; omega))) | (have BF9 := Lib.hid (And.intro (grow_box (g := w8.heap.size + 1) (cs := #[.slice none 0 0]) hg (by first | exact bn1 _ _ _ | exact bn20 _ _ _ _ | exact bn21 _ _ _ _) (own_ne O8.out (by omega))) (show W0.heap.size ≤ w8.heap.size + 1 by have := B8.out.size; omega))) | skip); clear hown hg hat)
            | (refine step_appS elD (by rfl) _ _ (by rfl) (.slice A8 l8 c8) (0 + 2) ([] ++ cs) (by rfl) (by first | exact O8.out | exact O8.out.alloc _ | exact (O8.out.alloc _).alloc _) (some ⟨W0.heap.size + 2, 0, none⟩) 1 1 [.slice A7 l7 c7] (by rfl) (by first | exact src_box BC.out | exact src_box (BC.out.alloc _) | exact src_box ((BC.out.alloc _).alloc _)) (one_single _ rfl) (by simp only [maxLen]; omega) (by omega) ?_; intro v9 w9 hown hg hat; obtain ⟨A9, l9, c9, rfl⟩ := own_shape hown; have B9 := Lib.hid (grow_bel (W0 := W0) hg (by first | exact B8.out | exact B8.out.alloc B8.out.size _ | exact (B8.out.alloc B8.out.size _).alloc (by have := B8.out.size; simp; omega) _) L8.out); have RJ := Lib.hid (rd_zip (R := Rd (Rd RB)) hown (by rw [ZL.out]) (ZA.out _ B9.out)); have ks9 := HS.out _ B9.out; have ks9a := HS.out _ (B9.out.alloc B9.out.size (.cells #[.slice none 0 0] 31)); (first | (have BF9 := Lib.hid (And.intro (grow_box (cs := #[.slice none 0 0]) hg (by first | exact BF.out.1 | exact BF.out.1.alloc _ | exact (BF.out.1.alloc _).alloc _) BF.out.2.1) BF.out.2.2)) | (have BF9 := Lib.hid (And.intro (grow_box (g := w8.heap.size) (cs := #[.slice none 0 0]) hg (by first | exact bn1 _ _ _ | exact bn20 _ _ _ _ | exact bn21 _ _ _ _) (own_ne O8.out (by omega))) (show W0.heap.size ≤ w8.heap.size by have := B8.out.size; omega))) | (have BF9 := Lib.hid (And.intro (grow_box (g := w8.heap.size + 1) (cs := #[.slice none 0 0]) hg (by first | exact bn1 _ _ _ | exact bn20 _ _ _ _ | exact bn21 _ _ _ _) (own_ne O8.out (by omega))) (show W0.heap.size ≤ w8.heap.size + 1 by have := B8.out.size; omega))) | skip); clear hown hg hat)
            | (refine step_appS elD (by rfl) _ _ (by rfl) (.slice A8 l8 c8) (0 + 2) ([] ++ cs) (by rfl) (by first | exact O8.out | exact O8.out.alloc _ | exact (O8.out.alloc _).alloc _) (some ⟨w8.heap.size, 0, none⟩) 1 1 [.slice A7 l7 c7] (by rfl) (src_box (by first | exact bn1 _ _ _ | exact bn20 _ _ _ _ | exact bn21 _ _ _ _)) (one_single _ rfl) (by simp only [maxLen]; omega) (by omega) ?_; intro v9 w9 hown hg hat; obtain ⟨A9, l9, c9, rfl⟩ := own_shape hown; have B9 := Lib.hid (grow_bel (W0 := W0) hg (by first | exact B8.out | exact B8.out.alloc B8.out.size _ | exact (B8.out.alloc B8.out.size _).alloc (by have := B8.out.size; simp; omega) _) L8.out); have RJ := Lib.hid (rd_zip (R := Rd (Rd RB)) hown (by rw [ZL.out]) (ZA.out _ B9.out)); have ks9 := HS.out _ B9.out; have ks9a := HS.out _ (B9.out.alloc B9.out.size (.cells #[.slice none 0 0] 31)); (first | (have BF9 := Lib.hid (And.intro (grow_box (cs := #[.slice none 0 0]) hg (by first | exact BF.out.1 | exact BF.out.1.alloc _ | exact (BF.out.1.alloc _).alloc _) BF.out.2.1) BF.out.2.2)) | (have BF9 := Lib.hid (And.intro (grow_box (g := w8.heap.size) (cs := #[.slice none 0 0]) hg (by first | exact bn1 _ _ _ | exact bn20 _ _ _ _ | exact bn21 _ _ _ _) (own_ne O8.out (by omega))) (show W0.heap.size ≤ w8.heap.size by have := B8.out.size; omega))) | (have BF9 := Lib.hid (And.intro (grow_box (g := w8.heap.size + 1) (cs := #[.slice none 0 0]) hg (by first | exact bn1 _ _ _ | exact bn20 _ _ _ _ | exact bn21 _ _ _ _) (own_ne O8.out (by omega))) (show W0.heap.size ≤ w8.heap.size + 1 by have := B8.out.size; omega))) | skip); clear hown hg hat)
            | (refine step_appS elD (by rfl) _ _ (by rfl) (.slice A8 l8 c8) (0 + 2) ([] ++ cs) (by rfl) (by first | exact O8.out | exact O8.out.alloc _ | exact (O8.out.alloc _).alloc _) (some ⟨w8.heap.size + 1, 0, none⟩) 1 1 [.slice A7 l7 c7] (by rfl) (src_box (by first | exact bn1 _ _ _ | exact bn20 _ _ _ _ | exact bn21 _ _ _ _)) (one_single _ rfl) (by simp only [maxLen]; omega) (by omega) ?_; intro v9 w9 hown hg hat; obtain ⟨A9, l9, c9, rfl⟩ := own_shape hown; have B9 := Lib.hid (grow_bel (W0 := W0) hg (by first | exact B8.out | exact B8.out.alloc B8.out.size _ | exact (B8.out.alloc B8.out.size _).alloc (by have := B8.out.size; simp; omega) _) L8.out); have RJ := Lib.hid (rd_zip (R := Rd (Rd RB)) hown (by rw [ZL.out]) (ZA.out _ B9.out)); have ks9 := HS.out _ B9.out; have ks9a := HS.out _ (B9.out.alloc B9.out.size (.cells #[.slice none 0 0] 31)); (first | (have BF9 := Lib.hid (And.intro (grow_box (cs := #[.slice none 0 0]) hg (by first | exact BF.out.1 | exact BF.out.1.alloc _ | exact (BF.out.1.alloc _).alloc _) BF.out.2.1) BF.out.2.2)) | (have BF9 := Lib.hid (And.intro (grow_box (g := w8.heap.size) (cs := #[.slice none 0 0]) hg (by first | exact bn1 _ _ _ | exact bn20 _ _ _ _ | exact bn21 _ _ _ _) (own_ne O8.out (by omega))) (show W0.heap.size ≤ w8.heap.size by have := B8.out.size; omega))) | (have BF9 := Lib.hid (And.intro (grow_box (g := w8.heap.size + 1) (cs := #[.slice none 0 0]) hg (by first | exact bn1 _ _ _ | exact bn20 _ _ _ _ | exact bn21 _ _ _ _) (own_ne O8.out (by omega))) (show W0.heap.size ≤ w8.heap.size + 1 by have := B8.out.size; omega))) | skip); clear hown hg hat)
            | (go_at_call 16; refine (JW.out _ _ (by first | exact RJ.out | exact Rd_reads (Rd_reads (Rd_reads RB_reads)) _ _ _ _ RJ.out (below_alloc _ _))).mono ?_; rintro e w10 ⟨A10, l10, c10, rfl, F10⟩; have B10 : Below W0.heap.size W0 w10 := (by first | exact B9.out.trans (F10.below.mono B9.out.size) | exact (B9.out.alloc B9.out.size (.cells #[.slice none 0 0] 31)).trans (F10.below.mono (B9.out.alloc B9.out.size (.cells #[.slice none 0 0] 31)).size)); have ks10 := HS.out _ B10; have ks10a := HS.out _ (B10.alloc B10.size (.cells #[.slice A10 l10 c10] 31)); have ks10b := HS.out _ (B10.alloc B10.size (.cells #[.slice none 0 0] 31)); (first | (have BX10 := Lib.hid (And.intro (BF9.out.1.below F10.below BF9.out.1.lt) (And.intro (show _ < _ from BF9.out.1.lt) BF9.out.2))) | (have BX10 := Lib.hid (And.intro ((BF9.out.1.alloc (.cells #[.slice none 0 0] 31)).below F10.below (BF9.out.1.alloc (.cells #[.slice none 0 0] 31)).lt) (And.intro (show _ < _ from (BF9.out.1.alloc (.cells #[.slice none 0 0] 31)).lt) BF9.out.2))) | (have BX10 := Lib.hid (And.intro ((bn1 w9 #[.slice none 0 0] 31).below F10.below (bn1 w9 #[.slice none 0 0] 31).lt) (And.intro (show _ < _ from (bn1 w9 #[.slice none 0 0] 31).lt) (show W0.heap.size ≤ w9.heap.size from B9.out.size)))) | skip); (try (have xf := BX10.out.1.cell 0; have yf := BX10.out.1.frozen 0; have ks10c := keep_set HS.out B10 BX10.out.1 BX10.out.2.2 (.slice A10 l10 c10)))))
            all_goals (go_wp2_with fail; go_meet; first | exact fin_new F10 B10 | exact fin_set F10 B10 BX10.out.1 BX10.out.2.1 BX10.out.2.2)
          case rest =>
            obtain ⟨gx, Aw, lw, cw, rfl, rfl, BXw, RU, TW⟩ := hcut
            obtain rfl : lw = 1 + m := RU.at_same.1.symm.trans HUVD.out.2
            obtain ⟨b, off, y, u, rfl, hbb, hy, hu2, hr⟩ := RU.at_same.at_ hlt
            obtain rfl : ck = y := Option.some.inj (HGET.out.1.symm.trans hy)
            obtain ⟨Br, nr, cr, rfl, hr'⟩ := hr
            have hr : Rd RB wc (.slice Br nr cr) ck := ⟨_, _, _, rfl, hr'⟩
            have kd := BXw.cell 0
            have SB := Lib.hid (sameB_c _ _ ck wc hr (Rd_reads RB_reads _ _ _ _ RK.out TW))
            have hk0 : (0 : Int) ≤ (k : Int) := by omega
            obtain ⟨z, hz⟩ : ∃ z, (U.filter fun r => !isZero r).length = z := ⟨_, rfl⟩
            have hz1 : ¬ (1 : Int) < (z : Int) := by omega
            have hz2 : decide ((1 : Int) < (z : Int)) = false := decide_eq_false hz1
            have CW : Hid (∀ W, Rd (Rd RB) W (.slice (some ⟨b, off, none⟩) (1 + m) cw) U → Calls Try.prog 18 #[.agg #[.slice (some ⟨b, off, none⟩) (1 + m) cw]] W fun e w' => e = .returned (.int .i64 (z : Int)) ∧ Below W.heap.size W w') := Lib.hid (fun W hW => by have := implCountRowsWritten_c _ U W hW; rwa [hz] at this)
            have RUH := Lib.hid RU
            have TWH := Lib.hid (T9H.out.trans (TW.mono T9H.out.size))
            clear hz hy hr hr' RU TW
            go_wp2_with fail
            refine SB.out.mono ?_
            rintro e w20 ⟨rfl, b20⟩
            have kd := (BXw.below b20 BXw.lt).cell 0
            have CW1 := Lib.hid (CW.out _ (Rd_reads (Rd_reads RB_reads) _ _ _ _ RUH.out b20))
            have T20 := TWH.out.trans (b20.mono TWH.out.size)
            clear b20 SB CW
            go_wp2_with fail
            refine CW1.out.mono ?_
            rintro e w21 ⟨rfl, b21⟩
            have T21 := T20.trans (b21.mono T20.size)
            clear b21 CW1
            go_wp2
            go_roundw
            case rel => exact ⟨k + 1, by omega, by go_num, T21⟩
            case measure => simp [intOf]; omega
        · have hkn : k = 1 + m := by omega
          subst hkn
          have T6 := T5.trans (hb.mono T5.size)
          go_wp2
          go_ret
          exact ⟨rfl, T6⟩
  · have HB := Lib.hid (big_t _ x0 w y0 hl)
    clear hl
    go_enter Try.func4, Try.ntmps4
    go_wp2_with fail
    refine HB.out.mono ?_
    rintro e w' ⟨rfl, rfl⟩
    go_wp2
    go_ret
    exact ⟨rfl, Below.refl _ _⟩
set_option maxRecDepth 100000 in
theorem lifted (os : Os) (started : os.Started) (H : Type) (enc : TypeId × Value → H) :
    ReturnsInHanded {} Try.checked os 4 .any (Rows.fnWritesHideSpec.pre6 enc Try.prog Try.f4 Rows.fnWritesHideRow.domain false) (Rows.fnWritesHideSpec.post enc Try.prog Try.f4 false true false false) := by
  refine returnsInHanded_of_change (C := Try.checked) own_ started (by kernel_rfl) Try.func4
    (ChangeSpec.witness6 (enc := enc) (C := Try.checked) false ⟨#[], #[.slice none 0 0], []⟩ 8 (by kernel_rfl) (by kernel_rfl) (by kernel_rfl) (by kernel_rfl)) ?_
  intro W base args ds gs before hval0 hW hcnd _
  have hval : ∀ (j : Nat) t v, Try.f4.params[j]? = some t → args[j]? = some v → Value.okWide Try.prog W .any base t v := hval0
  have hW' := hW
  obtain ⟨p, q, hA0, hV, rfl, hfz, hnd⟩ := hW
  have hA : DataW.TrodAll enc Try.prog W 0 (fun _ => true) true Try.f4.params.toList args.toList ds p := hA0
  rw [Try.params4] at hA hval
  obtain ⟨v0, vs0, d0, ds0, p0, q0, hargs, rfl, rfl, h0, r0⟩ := trodAll_cons hA
  obtain ⟨rfl, rfl, rfl⟩ := trodAll_nil r0
  obtain rfl : args = #[v0] := by cases args; simp_all
  obtain ⟨rfl, rfl⟩ := trodVars_none hV
  have k0 := h0
  have lt0 : ∀ x ∈ p0, x.block < W.heap.size := by obtain ⟨m, hm⟩ := k0; exact DataW.trod_lt m _ _ _ hm
  obtain ⟨x0, y0⟩ := open_val Try.underlying22 (opens_slice Try.underlying22 (by kernel_rfl) (opens_u8 Try.underlying5)) (hval 0 22 v0 rfl rfl) h0
  clear hA0 hval0
  refine (walk W v0 x0 y0).mono fun e W' ⟨he, bel⟩ => ?_
  subst he
  exact ⟨_, rfl, _, _, _, [], _, [], hW', trodAll_mk1 (shut_bool Try.underlying4 _), (trodAll_cons_mk (Below.trod laid_ (by kernel_rfl) (of_decide_eq_true (by kernel_rfl)) k0 bel lt0) trodAll_mk0), rfl, bel.frame _, fun h => by cases h⟩

theorem over : Rows.fnWritesHideRow.holds Try.pinned (OpenSpec.ofChange Rows.fnWritesHideSpec) :=
  OpenClaim.holds_of_wide 4 Try.f4 rfl rfl rfl rfl rfl rfl rfl ⟨rfl, rfl, rfl, rfl, rfl⟩ rfl rfl rfl rfl rfl (by kernel_rfl) Try.func4 (by kernel_rfl)
    (of_decide_eq_true (by kernel_rfl)) (by unfold Func.isWrapper; first | (rw [if_pos (by decide +kernel)]; kernel_rfl) | (rw [if_neg (by decide +kernel)]; exact ⟨rfl, rfl⟩))
    (fun os started H enc _ => lifted os started H enc)

theorem proved : Rows.FnWritesHideSaid := over
end Go.Proofs.Ytokhogdocaeelaa.fnWritesHide
