/- The unit write of both sides; what ExplainWrite computes. -/
import Derived.Test.YtokhogdocaeelaaJwP
import Derived.Test.YtokhogdocaeelaaInR
namespace Go.Proofs.Ytokhogdocaeelaa
set_option linter.unusedVariables false
open Go.RowKit

def uwOk (rows i : Int) (c : List UInt8) : Bool := decide (1 ≤ rows ∧ rows ≤ 64) && repOk (newDb rows) i c
def uwV (rows i : Int) (c : List UInt8) : Db := repRow (newDb rows) i c
def uwR (rows i : Int) (c : List UInt8) : Db := if 1 ≤ rows ∧ rows ≤ 64 then uwV rows i c else []
theorem uw_rows {rows i : Int} {c : List UInt8} (h : uwOk rows i c = true) : 1 ≤ rows ∧ rows ≤ 64 := by
  unfold uwOk at h
  simp only [Bool.and_eq_true, decide_eq_true_eq] at h
  exact h.1
theorem uw_rep {rows i : Int} {c : List UInt8} (h : uwOk rows i c = true) : repOk (newDb rows) i c = true := by
  unfold uwOk at h
  simp only [Bool.and_eq_true] at h
  exact h.2
theorem uwR_yes {rows i : Int} {c : List UInt8} (h : uwOk rows i c = true) : uwR rows i c = uwV rows i c := by unfold uwR; rw [if_pos (uw_rows h)]
theorem newDb_ok (r : Int) : dbOk (newDb r) = true := by
  unfold newDb dbOk
  split
  · rename_i h
    simp only [Bool.and_eq_true, decide_eq_true_eq, Bool.not_eq_true', List.any_eq_false, bne_iff_ne, ne_eq, Decidable.not_not]
    refine ⟨by rw [List.length_replicate]; omega, fun x hx => ?_⟩
    rw [(List.mem_replicate.1 hx).2]
    rfl
  · simp
theorem newDb_len {r : Int} (h : 1 ≤ r ∧ r ≤ 64) : ((newDb r).length : Int) = r := by
  unfold newDb
  rw [if_pos ⟨by omega, h.2⟩, List.length_replicate]
  omega
theorem newDb_tot (r : Int) : tot (newDb r) ≤ 1600 := db_tot (newDb_ok r)
theorem set_ok {d : Db} {k : Nat} {c : List UInt8} (h : dbOk d = true) (hc : c.length = 24) : dbOk (d.set k c) = true := by
  unfold dbOk at *
  simp only [Bool.and_eq_true, decide_eq_true_eq, Bool.not_eq_true', List.any_eq_false, bne_iff_ne, ne_eq, Decidable.not_not] at *
  refine ⟨by rw [List.length_set]; exact h.1, fun x hx => ?_⟩
  rcases List.mem_or_eq_of_mem_set hx with h2 | h2
  · exact h.2 x h2
  · rw [h2]; exact hc
theorem uw_valid {rows i : Int} {c : List UInt8} (h : uwOk rows i c = true) : dbOk (uwV rows i c) = true := by
  have hr := uw_rep h
  unfold uwV repRow
  rw [if_pos hr]
  unfold repOk at hr
  exact set_ok (newDb_ok rows) (of_decide_eq_true hr).2
theorem uw_tot {rows i : Int} {c : List UInt8} (h : uwOk rows i c = true) : tot (uwV rows i c) ≤ 1600 := db_tot (uw_valid h)
theorem uw_iff (rows i : Int) (c : List UInt8) : uwOk rows i c = decide ((1 ≤ rows ∧ rows ≤ 64) ∧ (0 ≤ i ∧ i ≤ rows - 1) ∧ c.length = 24) := by
  unfold uwOk repOk
  by_cases h : 1 ≤ rows ∧ rows ≤ 64
  · have := newDb_len h
    rw [decide_eq_true h, Bool.true_and]
    exact decide_eq_decide.2 ⟨fun q => ⟨h, by omega, q.2⟩, fun q => ⟨by omega, q.2.2⟩⟩
  · rw [decide_eq_false h, Bool.false_and]
    exact (decide_eq_false (fun q => h q.1)).symm
def ew (l : List Db) (rows i : Int) (c : List UInt8) : Option Db := if uwOk rows i c = true ∧ l ≠ [] then xfold (uwV rows i c) l else none
theorem ew_no1 {l : List Db} {rows i : Int} {c : List UInt8} (h : uwOk rows i c = false) : ew l rows i c = none := by unfold ew; rw [if_neg (by rw [h]; simp)]
theorem ew_no2 {l : List Db} {rows i : Int} {c : List UInt8} (h : l = []) : ew l rows i c = none := by unfold ew; rw [if_neg (fun q => q.2 h)]
theorem ew_yes {l : List Db} {rows i : Int} {c : List UInt8} (h : uwOk rows i c = true) (hl : l ≠ []) : ew l rows i c = xfold (uwV rows i c) l := by unfold ew; rw [if_pos ⟨h, hl⟩]
theorem ew_bd (l : List Db) (rows i : Int) (c : List UInt8) : sumL ((ew l rows i c).getD []) ≤ 1600 := by
  by_cases h : uwOk rows i c = true ∧ l ≠ []
  · rw [ew_yes h.1 h.2]
    cases hx : xfold (uwV rows i c) l with
    | none => simp [sumL]
    | some D =>
      have := xfold_bd hx h.2
      have := sumL_le D
      simp
      omega
  · have : ew l rows i c = none := by unfold ew; rw [if_neg h]
    rw [this]; simp [sumL]
set_option maxHeartbeats 1000000 in
theorem implUnit_c (rows i : Int) (vc : Value) (c : List UInt8) (ok : Bool) (w : World) (hc : Rd RB w vc c) (hok : Hid (uwOk rows i c = ok)) (hcl : c.length ≤ 1048576) (hi : -9223372036854775808 ≤ i) (hi' : i ≤ 9223372036854775807) (hr1 : -9223372036854775808 ≤ rows) (hr2 : rows ≤ 9223372036854775807) :
    Calls Try.prog 64 #[.int .i64 rows, .int .i64 i, vc] w fun e w' => ∃ A l cc, e = .returned (.tuple #[.agg #[.slice A l cc], .bool ok]) ∧ Fresh OBB w w' (.slice A l cc) (uwR rows i c) := by
  have bx := below_alloc w (.cells #[.slice none 0 0] 31)
  have BX := Lib.hid (Box.new w 31 #[.slice none 0 0])
  have HC := Lib.hid hc
  clear hc
  by_cases hr : 1 ≤ rows ∧ rows ≤ 64
  · have hrep : Hid (repOk (newDb rows) i c = ok) := Lib.hid (by
      have := hok.out
      unfold uwOk at this
      rwa [decide_eq_true hr, Bool.true_and] at this)
    have ND := Lib.hid (implNewDatabase_c rows (w.alloc (.cells #[.slice none 0 0] 31)) hr1 hr2)
    have RR : Hid (∀ W A l c2, Below w.heap.size w W → Rd (Rd RB) W (.slice A l c2) (newDb rows) → Calls Try.prog 107 #[.agg #[.slice A l c2], .int .i64 i, vc] W fun e w' => ∃ A l c2, e = .returned (.tuple #[.agg #[.slice A l c2], .bool ok]) ∧ Fresh OBB W w' (.slice A l c2) (uwV rows i c)) := Lib.hid (fun W A l c2 hW hA => implReplaceRow_c _ (newDb rows) i _ c ok W hA (Rd_reads RB_reads _ _ _ _ HC.out hW) hrep hi hi' (Nat.le_trans (newDb_tot rows) (by omega)) hcl)
    have HU : Hid (uwR rows i c = uwV rows i c) := Lib.hid (by unfold uwR; rw [if_pos hr])
    have HR := Lib.hid hr
    clear hr
    go_enter Try.func64, Try.ntmps64
    go_wp2_with fail
    refine (implIn_t _ _ _ _ HR.out.1 HR.out.2).mono ?_
    rintro e w' ⟨rfl, rfl⟩
    go_wp2_with fail
    refine ND.out.mono ?_
    rintro e w1 ⟨A0, l0, c0, rfl, F0⟩
    have b0 := F0.below
    have T1 := bx.trans (b0.mono bx.size)
    have R1 := rd_db (F0.iv OBB_good)
    have BX1 := Lib.hid (BX.out.below b0 BX.out.lt)
    clear F0 b0 ND
    go_wp2_with fail
    refine (RR.out _ _ _ _ T1 R1).mono ?_
    rintro e w2 ⟨A1, l1, c1, rfl, F1⟩
    have B2 := BX1.out.below F1.below BX1.out.lt
    have d0 := B2.cell 0
    have f0 := B2.frozen 0
    have e0 := (B2.set_ 0 (.slice A1 l1 c1)).cell 0
    have hlt := BX1.out.lt
    have FF := Lib.hid (((F1.g T1).set OBB_good (p := ⟨w.heap.size, 0, none⟩) (Nat.le_refl _) hlt (.slice A1 l1 c1)).fresh T1.size)
    clear F1 B2 R1 RR T1
    go_wp2
    refine bodyPost_ret (v := .tuple #[.agg #[.slice A1 l1 c1], .bool ok]) (by simp [results, Try.results64, go_sem, e0]) rfl ⟨_, _, _, rfl, by rw [HU.out]; exact FF.out⟩
  · have hk2 : ok = false := by rw [← hok.out]; unfold uwOk; rw [decide_eq_false hr]; rfl
    subst hk2
    have HU : Hid (uwR rows i c = []) := Lib.hid (by unfold uwR; rw [if_neg hr])
    have HR := Lib.hid hr
    have e0 := BX.out.cell 0
    clear hr
    go_enter Try.func64, Try.ntmps64
    go_wp2_with fail
    refine (implIn_f _ _ _ _ HR.out).mono ?_
    rintro e w' ⟨rfl, rfl⟩
    go_wp2
    refine bodyPost_ret (v := .tuple #[.agg #[.slice none 0 0], .bool false]) (by simp [results, Try.results64, go_sem, e0]) rfl ⟨_, _, _, rfl, by rw [HU.out]; exact fresh_nilDB _ _ bx⟩
set_option maxHeartbeats 1000000 in
theorem specRow_c (rows i : Int) (c : List UInt8) (ok : Bool) (w : World) {A : Option Addr} {n cc : Nat} (hn : c.length = n) (hok : Hid (uwOk rows i c = ok)) (hr1 : -9223372036854775808 ≤ rows) (hr2 : rows ≤ 9223372036854775807) :
    Calls Try.prog 68 #[.int .i64 rows, .int .i64 i, .slice A n cc] w fun e w' => e = .returned (.bool ok) ∧ w = w' := by
  subst hn
  have hu := hok.out
  rw [uw_iff] at hu
  by_cases h1 : 1 ≤ rows ∧ rows ≤ 64
  · have hw : IntKind.i64.wrap (rows - 1) = rows - 1 := IntWalk.i64_in _ (by omega)
    by_cases h2 : 0 ≤ i ∧ i ≤ rows - 1
    · by_cases h3 : c.length = 24
      · have hk2 : ok = true := by rw [← hu]; exact decide_eq_true ⟨h1, h2, h3⟩
        subst hk2
        have H1 := Lib.hid h1
        have H2 := Lib.hid h2
        clear hu h2
        go_enter Try.func68, Try.ntmps68
        go_wp2_with fail
        refine (specIn_t _ _ _ _ H1.out.1 H1.out.2).mono ?_
        rintro e w' ⟨rfl, rfl⟩
        go_wp2_with fail
        refine (specIn_t _ _ _ _ H2.out.1 H2.out.2).mono ?_
        rintro e w' ⟨rfl, rfl⟩
        go_wp2
        go_ret
        exact ⟨ret_bool (by simp), rfl⟩
      · have hk2 : ok = false := by rw [← hu]; exact decide_eq_false (fun q => h3 q.2.2)
        subst hk2
        have H1 := Lib.hid h1
        have H2 := Lib.hid h2
        clear hu h2
        go_enter Try.func68, Try.ntmps68
        go_wp2_with fail
        refine (specIn_t _ _ _ _ H1.out.1 H1.out.2).mono ?_
        rintro e w' ⟨rfl, rfl⟩
        go_wp2_with fail
        refine (specIn_t _ _ _ _ H2.out.1 H2.out.2).mono ?_
        rintro e w' ⟨rfl, rfl⟩
        go_wp2
        go_ret
        exact ⟨ret_bool (by simp; omega), rfl⟩
    · have hk2 : ok = false := by rw [← hu]; exact decide_eq_false (fun q => h2 q.2.1)
      subst hk2
      have H1 := Lib.hid h1
      have H2 := Lib.hid h2
      clear hu h2
      go_enter Try.func68, Try.ntmps68
      go_wp2_with fail
      refine (specIn_t _ _ _ _ H1.out.1 H1.out.2).mono ?_
      rintro e w' ⟨rfl, rfl⟩
      go_wp2_with fail
      refine (specIn_f _ _ _ _ H2.out).mono ?_
      rintro e w' ⟨rfl, rfl⟩
      go_wp2
      go_ret
      exact ⟨rfl, rfl⟩
  · have hk2 : ok = false := by rw [← hu]; exact decide_eq_false (fun q => h1 q.1)
    subst hk2
    have H1 := Lib.hid h1
    clear hu h1
    go_enter Try.func68, Try.ntmps68
    go_wp2_with fail
    refine (specIn_f _ _ _ _ H1.out).mono ?_
    rintro e w' ⟨rfl, rfl⟩
    go_wp2
    go_ret
    exact ⟨rfl, rfl⟩
end Go.Proofs.Ytokhogdocaeelaa
