/- FnDatabases, for every argument, no condition: a replaced row is read, other rows stay, and a database combined with itself is zero. -/
import Derived.Test.YtceogegjghmonaaDbLaw
import Derived.Test.YtceogegjghmonaaAt
import Derived.Test.YtceogegjghmonaaSame
import Derived.Test.YtceogegjghmonaaEqDb
import Derived.Test.YtceogegjghmonaaRead
namespace Go.Proofs.Ytceogegjghmonaa.fnDatabases
set_option linter.unusedVariables false
open Go.RowKit Go.ChangeShapes Go.WideShapes Go.ChangeAt

theorem tot_LenLe {n m : Nat} {l : List (List UInt8)} (h : LenLe n l) (hl : l.length ≤ m) : tot l ≤ m + m * n := by
  have : sumL l ≤ l.length * n := by
    clear hl
    induction l with
    | nil => simp [sumL]
    | cons x l ih =>
      have h1 := h x (by simp)
      have h2 := ih (fun y hy => h y (by simp [hy]))
      simp only [sumL, List.map_cons, List.sum_cons, List.length_cons, Nat.add_mul, Nat.one_mul] at *
      omega
  have h3 := Nat.mul_le_mul_right n hl
  unfold tot
  omega
/-- A struct of the call's own in a box: it stands, and its rows are read, in every later world. -/
def Held (w : World) (g : Nat) (v : Value) (xs : List (List UInt8)) : Prop := ∀ W, Below w.heap.size w W → W.cell? ⟨g, 0, none⟩ = some v ∧ Rd (Rd RB) W v xs
theorem Held.step {w w' : World} {g : Nat} {v : Value} {xs : List (List UInt8)} (h : Held w g v xs) (hb : Below w.heap.size w w') : Held w' g v xs := fun W hW => h W (hb.trans (hW.mono hb.size))
theorem Held_new {w : World} {v : Value} {xs : List (List UInt8)} (h : Rd (Rd RB) w v xs) : Held (w.alloc (.cells #[v] 26)) w.heap.size v xs := fun W hW =>
  ⟨((Box.new w 26 #[v]).below hW (by simp)).cell 0, Rd_reads (Rd_reads RB_reads) _ _ _ _ h ((below_alloc w _).trans (hW.mono (by simp)))⟩
theorem Held.cell {w : World} {g : Nat} {v : Value} {xs : List (List UInt8)} (h : Held w g v xs) : w.cell? ⟨g, 0, none⟩ = some v := (h w (Below.refl _ _)).1
theorem Held.rd {w : World} {g : Nat} {v : Value} {xs : List (List UInt8)} (h : Held w g v xs) : Rd (Rd RB) w v xs := (h w (Below.refl _ _)).2

set_option maxHeartbeats 1000000 in
set_option maxRecDepth 100000 in
theorem walk (w : World) (v0 : Value) (x0 : List UInt8) (y0 : Rd RB w v0 x0) :
    Calls Try.prog 5 #[v0] w fun e w' => e = .returned (.bool true) ∧ Below w.heap.size w w' := by
  by_cases hl : x0.length ≤ 1048576
  · have HB := Lib.hid (big_f _ x0 w y0 hl)
    have DR := Lib.hid (drawRR_c _ x0 w y0 hl)
    clear y0 hl
    go_enter Try.func5, Try.ntmps5
    go_wp2_with fail
    refine HB.out.mono ?_
    rintro e w' ⟨rfl, rfl⟩
    go_wp2_with fail
    refine DR.out.mono ?_
    rintro e w1 ⟨A, l, c, d, i, A2, l2, c2, cell, rfl, R1, R2, hdl, hle, hi, hcl, T1⟩
    have hn1 := R1.at_same.1
    have hn2 := R2.at_same.1
    subst hn1 hn2
    have htot : tot d ≤ 1664 := tot_LenLe (n := 25) (m := 64) hle hdl
    have bD := below_alloc w1 (.cells #[.slice A d.length c] 26)
    have DD := Lib.hid (Held_new R1)
    have RC := Lib.hid (Rd_reads RB_reads _ _ _ _ R2 bD)
    have T2 := T1.trans (bD.mono T1.size)
    have q_ := DD.out.cell
    clear DR R1 R2 bD T1
    obtain ⟨ok, hok⟩ : ∃ b : Bool, repOk d i cell = b := ⟨_, rfl⟩
    have HOK := Lib.hid hok
    clear hok
    go_wp2_with fail
    generalize w1.alloc (.cells #[.slice A d.length c] 26) = w2 at *
    generalize w1.heap.size = gd at *
    refine (implReplaceRow_c _ d i _ cell ok w2 DD.out.rd RC.out HOK (by omega) (by omega) (by omega) (by omega)).mono ?_
    rintro e w3 ⟨Ax, lx, cx, rfl, F3⟩
    have B23 := F3.below
    have rx := (F3.iv OBB_good).rd (R' := Rd RB) (fun q => q.rd (fun z => z.rb))
    have bX := below_alloc w3 (.cells #[.slice Ax lx cx] 26)
    have XX := Lib.hid (Held_new rx)
    have B24 := B23.trans (bX.mono B23.size)
    have DD4 := Lib.hid (DD.out.step B24)
    have RC4 := Lib.hid (Rd_reads RB_reads _ _ _ _ RC.out B24)
    have T4 := T2.trans (B24.mono T2.size)
    have qd4 := DD4.out.cell
    have qx4 := XX.out.cell
    clear F3 rx bX B23 q_ DD RC
    by_cases hc : (0 ≤ i ∧ i < (d.length : Nat)) ∧ cell.length = 24
    · obtain ⟨j, rfl⟩ := Int.eq_ofNat_of_zero_le hc.1.1
      have hjl : j < d.length := by omega
      have hc24 := hc.2
      have hok := repOk_iff hjl hc24
      have hokt : ok = true := by rw [← HOK.out, hok]
      subst hokt
      have hxe := rep_eq hok
      rw [hxe] at XX
      have HC24 := Lib.hid hc24
      obtain ⟨n, hn⟩ : ∃ n, d.length = n := ⟨_, rfl⟩
      have HN := Lib.hid hn
      obtain ⟨r, hr⟩ : ∃ r, d[j]? = some r := ⟨d[j], List.getElem?_eq_getElem hjl⟩
      have HR := Lib.hid hr
      have htx : tot (d.set j cell) ≤ 1664 := tot_LenLe (n := 25) (m := 64) (fun x hx => by
        rcases List.mem_or_eq_of_mem_set hx with h | h
        · exact hle x h
        · rw [h]; omega) (by rw [List.length_set]; exact hdl)
      rw [hc24] at RC4 ⊢
      rw [hn] at hjl hdl DD4 qd4 hc ⊢
      have hj0 : (0 : Int) ≤ (j : Int) := by omega
      have hjn : (j : Int) < (n : Int) := by omega
      have hxl : (d.set j cell).length = n := by rw [List.length_set, hn]
      have HXL := Lib.hid hxl
      clear hc hok hxe hn hr hc24 HOK hxl
      go_wp2_with fail
      generalize hw4 : w3.alloc (.cells #[.slice Ax lx cx] 26) = w4 at *
      generalize w3.heap.size = gx at *
      clear hw4
      go_loopw [8] (fun o wr => ∃ k : Nat, k ≤ n ∧ o = .int .i64 k ∧ Below w4.heap.size w4 wr) (fun o _ => n - (intOf o).toNat)
      case atStart => exact ⟨0, Nat.zero_le _, rfl, Below.refl _ _⟩
      case round =>
        obtain ⟨k, hk, rfl, hb⟩ := hrel
        have HDr := Lib.hid (DD4.out.step hb)
        have HXr := Lib.hid (XX.out.step hb)
        have cd := HDr.out.cell
        have cx1 := HXr.out.cell
        by_cases hlt : k < n
        · obtain ⟨y, hy⟩ : ∃ y, d[k]? = some y := ⟨d[k]'(by rw [HN.out]; exact hlt), List.getElem?_eq_getElem _⟩
          have hg := rep_get (j := j) (c := cell) hy
          have hro := rowOf_at (d.set j cell) k _ hg
          have hri : rowIn (d.set j cell) (k : Int) = true := decide_eq_true ⟨by omega, by rw [HXL.out]; omega⟩
          have RDR := implReadRow_c _ (d.set j cell) (k : Int) true wr HXr.out.rd (Lib.hid hri) (by omega) (by omega) (by omega)
          rw [hro] at RDR
          have HY := Lib.hid hy
          have hk0 : (0 : Int) ≤ (k : Int) := by omega
          have hkn : (k : Int) < (n : Int) := by omega
          clear hg hro hri hy
          go_wp2_with fail
          refine RDR.mono ?_
          rintro e w5 ⟨v5, rfl, F5⟩
          obtain ⟨Ab, lb, cb, rfl⟩ := fresh_slice F5
          have rb := (F5.iv (Own_good FB_good)).rd (R' := RB) (fun q => q.rb)
          have hb5 := hb.trans (F5.below.mono hb.size)
          have HD5 := Lib.hid (HDr.out.step F5.below)
          have cd5 := HD5.out.cell
          clear F5 RDR cd cx1
          by_cases hkj : k = j
          · subst hkj
            rw [if_pos rfl] at rb
            have rc := Rd_reads RB_reads _ _ _ _ RC4.out hb5
            have SB := Lib.hid (sameB_c _ _ cell w5 rb rc)
            clear rb rc
            go_wp2_with fail
            refine SB.out.mono ?_
            rintro e w6 ⟨rfl, b6⟩
            have hb6 := hb5.trans (b6.mono hb5.size)
            clear b6 SB
            go_wp2
            go_roundw
            case rel => exact ⟨k + 1, by omega, by go_num, hb6⟩
            case measure => simp [intOf]; omega
          · rw [if_neg hkj] at rb
            have e1 : ((k : Int) == (j : Int)) = false := by simp; omega
            have e2 : ((k : Int) != (j : Int)) = true := by simp; omega
            have e3 : ¬ (k : Int) = (j : Int) := by omega
            obtain ⟨bb, off, y', u, hA, hbb, hy', hu, hru⟩ := HD5.out.rd.at_same.at_ hlt
            obtain rfl : y = y' := by have := HY.out; rw [this] at hy'; injection hy'
            subst hA
            have cu : w5.cell? ⟨bb, off + k, none⟩ = some u := hu
            have SB := Lib.hid (sameB_c _ _ y w5 rb hru)
            clear rb hu hru hy'
            go_wp2_with fail
            refine SB.out.mono ?_
            rintro e w6 ⟨rfl, b6⟩
            have hb6 := hb5.trans (b6.mono hb5.size)
            clear b6 SB
            go_wp2
            go_roundw
            case rel => exact ⟨k + 1, by omega, by go_num, hb6⟩
            case measure => simp [intOf]; omega
        · obtain rfl : n = k := by omega
          have VD := Lib.hid (specIsValidDatabase_c _ d wr HDr.out.rd)
          have T5 := T4.trans (hb.mono T4.size)
          have RC5 := Lib.hid (Rd_reads RB_reads _ _ _ _ RC4.out hb)
          cases hv : dbOk d with
          | false =>
            rw [hv] at VD
            clear hv
            go_wp2_with fail
            refine VD.out.mono ?_
            rintro e w6 ⟨rfl, b6⟩
            go_wp2
            go_ret
            exact ⟨rfl, T5.trans (b6.mono T5.size)⟩
          | true =>
            rw [hv] at VD
            have XL := Lib.hid (xr_law hv HR.out HC24.out)
            have XS := Lib.hid (xd_self hv)
            have VX := Lib.hid (rep_valid (j := j) hv HC24.out)
            clear hv
            go_wp2_with fail
            refine VD.out.mono ?_
            rintro e w6 ⟨rfl, b6⟩
            have HD6 := Lib.hid (HDr.out.step b6)
            have HX6 := Lib.hid (HXr.out.step b6)
            have RC6 := Lib.hid (Rd_reads RB_reads _ _ _ _ RC5.out b6)
            have T6 := T5.trans (b6.mono T5.size)
            have cd6 := HD6.out.cell
            clear b6 VD cd cx1 HDr HXr RC5 T5 hb
            go_wp2_with fail
            refine (implXorRow_c _ d (j : Int) _ cell true w6 HD6.out.rd RC6.out (Lib.hid XL.out.1) (by omega) (by omega) (by omega) (by rw [HC24.out]; omega)).mono ?_
            rintro e w7 ⟨Ay, ly, cy, rfl, F7⟩
            have B67 := F7.below
            have ry := (F7.iv OBB_good).rd (R' := Rd RB) (fun q => q.rd (fun z => z.rb))
            have B68 := B67.trans ((below_alloc w7 (.cells #[.slice Ay ly cy] 26)).mono B67.size)
            have YY := Lib.hid (Held_new ry)
            have HD8 := Lib.hid (HD6.out.step B68)
            have HX8 := Lib.hid (HX6.out.step B68)
            have RC8 := Lib.hid (Rd_reads RB_reads _ _ _ _ RC6.out B68)
            have T8 := T6.trans (B68.mono T6.size)
            have cy8 := YY.out.cell
            clear F7 ry B67 B68 cd6 HD6 HX6 RC6 T6
            go_wp2_with fail
            generalize hw8 : w7.alloc (.cells #[.slice Ay ly cy] 26) = w8 at *
            generalize w7.heap.size = gy at *
            clear hw8
            have hz := implXorRow_c _ (xorRow d (j : Int) cell) (j : Int) _ cell true w8 YY.out.rd RC8.out (Lib.hid XL.out.2.1) (by omega) (by omega) (by unfold tot; have := XL.out.2.2.2.1; have := XL.out.2.2.2.2; have := HN.out; omega) (by rw [HC24.out]; omega)
            rw [XL.out.2.2.1] at hz
            refine hz.mono ?_
            rintro e w9 ⟨Az, lz, cz, rfl, F9⟩
            have B89 := F9.below
            have rz := (F9.iv OBB_good).rd (R' := Rd RB) (fun q => q.rd (fun z => z.rb))
            have B810 := B89.trans ((below_alloc w9 (.cells #[.slice Az lz cz] 26)).mono B89.size)
            have ZZ := Lib.hid (Held_new rz)
            have HD10 := Lib.hid (HD8.out.step B810)
            have HX10 := Lib.hid (HX8.out.step B810)
            have T10 := T8.trans (B810.mono T8.size)
            have cd10 := HD10.out.cell
            clear F9 rz B89 B810 cy8 HD8 HX8 RC8 T8 YY hz
            go_wp2_with fail
            generalize hw10 : w9.alloc (.cells #[.slice Az lz cz] 26) = w10 at *
            generalize w9.heap.size = gz at *
            clear hw10
            have ho := implXorDb_c _ _ d d true w10 HD10.out.rd HD10.out.rd (Lib.hid XS.out.1) (by omega) (by omega)
            rw [XS.out.2, HN.out] at ho
            refine ho.mono ?_
            rintro e w11 ⟨Ao, lo, co, rfl, F11⟩
            have B1011 := F11.below
            have ro := (F11.iv OBB_good).rd (R' := Rd RB) (fun q => q.rd (fun z => z.rb))
            have B1012 := B1011.trans ((below_alloc w11 (.cells #[.slice Ao lo co] 26)).mono B1011.size)
            have OO := Lib.hid (Held_new ro)
            have ZZ12 := Lib.hid (ZZ.out.step B1012)
            have HD12 := Lib.hid (HD10.out.step B1012)
            have HX12 := Lib.hid (HX10.out.step B1012)
            have T12 := T10.trans (B1012.mono T10.size)
            clear F11 ro B1011 B1012 cd10 HD10 HX10 ZZ T10 ho
            go_wp2_with fail
            generalize hw12 : w11.alloc (.cells #[.slice Ao lo co] 26) = w12 at *
            generalize w11.heap.size = go at *
            clear hw12
            have S1 : Hid (∀ W, Below w12.heap.size w12 W → Calls Try.prog 32 #[.agg #[.slice Az lz cz], .agg #[.slice A n c]] W fun e w' => e = .returned (.bool true) ∧ Below W.heap.size W w') := Lib.hid (fun W hW => by
              have := implEqualDatabases_c _ _ d d W (ZZ12.out W hW).2 (HD12.out W hW).2
              rwa [decide_eq_true (show d = d from rfl)] at this)
            have S2 : Hid (∀ W, Below w12.heap.size w12 W → Calls Try.prog 37 #[.agg #[.slice Ao lo co]] W fun e w' => e = .returned (.int .i64 0) ∧ Below W.heap.size W w') := Lib.hid (fun W hW => by
              have := specCountRowsWritten_c _ _ W (OO.out W hW).2
              rwa [cnt_zero n] at this)
            have S3 : Hid (∀ W, Calls Try.prog 38 #[.int .i64 (n : Int)] W fun e w' => ∃ A l c, e = .returned (.agg #[.slice A l c]) ∧ Fresh OBB W w' (.slice A l c) (newDb (n : Int))) := Lib.hid (fun W => implNewDatabase_c (n : Int) W (by omega) (by omega))
            have S4 : Hid (∀ W An ln cn, Below w12.heap.size w12 W → Rd (Rd RB) W (.slice An ln cn) (newDb (n : Int)) → Calls Try.prog 32 #[.agg #[.slice Ao lo co], .agg #[.slice An ln cn]] W fun e w' => e = .returned (.bool true) ∧ Below W.heap.size W w') := Lib.hid (fun W An ln cn hW hr => by
              have := implEqualDatabases_c _ _ _ _ W (OO.out W hW).2 hr
              rwa [decide_eq_true rfl] at this)
            have S5 : Hid (∀ W, Below w12.heap.size w12 W → Calls Try.prog 39 #[.agg #[.slice Ax lx cx]] W fun e w' => e = .returned (.bool true) ∧ Below W.heap.size W w') := Lib.hid (fun W hW => by
              have := implIsValidDatabase_c _ _ W (HX12.out W hW).2
              rwa [VX.out] at this)
            have KC : Hid (∀ W, Below w12.heap.size w12 W → W.cell? ⟨gz, 0, none⟩ = some (.slice Az lz cz) ∧ W.cell? ⟨gd, 0, none⟩ = some (.slice A n c) ∧ W.cell? ⟨go, 0, none⟩ = some (.slice Ao lo co) ∧ W.cell? ⟨gx, 0, none⟩ = some (.slice Ax lx cx)) := Lib.hid (fun W hW => ⟨(ZZ12.out W hW).1, (HD12.out W hW).1, (OO.out W hW).1, (HX12.out W hW).1⟩)
            have tL : Below w12.heap.size w12 w12.drew := (Below.refl _ _).drew
            have kc := KC.out _ tL
            clear ZZ12 HD12 HX12 OO
            go_wp2_with fail
            go_region_held3 (fun w' => w'.cell? ⟨gz, 0, none⟩ = some (.slice Az lz cz) ∧ w'.cell? ⟨gd, 0, none⟩ = some (.slice A n c) ∧ w'.cell? ⟨go, 0, none⟩ = some (.slice Ao lo co) ∧ w'.cell? ⟨gx, 0, none⟩ = some (.slice Ax lx cx))
              (first | (exact kc) | go_keep)
              (first
                | (go_at_call 32; ((with_reducible refine (S1.out _ tL).mono ?_); rintro e wa ⟨rfl, ba⟩; have tL := tL.trans (ba.mono tL.size); have kc := KC.out _ tL))
                | (go_at_call 37; ((with_reducible refine (S2.out _ tL).mono ?_); rintro e wb ⟨rfl, ba⟩; have tL := tL.trans (ba.mono tL.size); have kc := KC.out _ tL))
                | (go_at_call 38; ((with_reducible refine (S3.out _).mono ?_); rintro e wn ⟨An, ln, cn, rfl, FJ⟩; have rn := (FJ.iv OBB_good).rd (R' := Rd RB) (fun q => q.rd (fun z => z.rb)); have tL := tL.trans (FJ.below.mono tL.size); have kc := KC.out _ tL; clear FJ))
                | (go_at_call 32; ((with_reducible refine (S4.out _ _ _ _ tL rn).mono ?_); rintro e we ⟨rfl, ba⟩; have tL := tL.trans (ba.mono tL.size); have kc := KC.out _ tL))
                | (go_at_call 39; ((with_reducible refine (S5.out _ tL).mono ?_); rintro e wv ⟨rfl, ba⟩; have tL := tL.trans (ba.mono tL.size); have kc := KC.out _ tL)))
            all_goals
              go_wp2
              go_ret
              exact ⟨rfl, T12.trans (tL.mono T12.size)⟩
    · have hokf : ok = false := by rw [← HOK.out]; unfold repOk; exact decide_eq_false hc
      subst hokf
      have hxe : repRow d i cell = d := by unfold repRow; rw [if_neg (by rw [HOK.out]; simp)]
      rw [hxe] at XX
      have EQ := implEqualDatabases_c _ _ d d _ XX.out.rd DD4.out.rd
      rw [decide_eq_true (show d = d from rfl)] at EQ
      have EQH := Lib.hid EQ
      clear hxe HOK EQ
      by_cases h1 : 0 ≤ i
      · by_cases h2 : i < (d.length : Nat)
        · have h3 : ¬ cell.length = 24 := fun e => hc ⟨⟨h1, h2⟩, e⟩
          have h3' : ¬ (cell.length : Int) = 24 := by omega
          clear hc
          go_wp2_with fail
          refine EQH.out.mono ?_
          rintro e w5 ⟨rfl, b⟩
          go_wp2
          go_ret
          exact ⟨rfl, T4.trans (b.mono T4.size)⟩
        · clear hc
          go_wp2_with fail
          refine EQH.out.mono ?_
          rintro e w5 ⟨rfl, b⟩
          go_wp2
          go_ret
          exact ⟨rfl, T4.trans (b.mono T4.size)⟩
      · clear hc
        go_wp2_with fail
        refine EQH.out.mono ?_
        rintro e w5 ⟨rfl, b⟩
        go_wp2
        go_ret
        exact ⟨rfl, T4.trans (b.mono T4.size)⟩
  · have HB := Lib.hid (big_t _ x0 w y0 hl)
    clear y0 hl
    go_enter Try.func5, Try.ntmps5
    go_wp2_with fail
    refine HB.out.mono ?_
    rintro e w' ⟨rfl, rfl⟩
    go_wp2
    go_ret
    exact ⟨rfl, Below.refl _ _⟩

set_option maxRecDepth 100000 in
theorem lifted (os : Os) (started : os.Started) (H : Type) (enc : TypeId × Value → H) :
    ReturnsInHanded {} Try.checked os 5 .any (Rows.fnDatabasesSpec.pre6 enc Try.prog Try.f5 Rows.fnDatabasesRow.domain false) (Rows.fnDatabasesSpec.post enc Try.prog Try.f5 false true false false) := by
  refine returnsInHanded_of_change (C := Try.checked) own_ started (by kernel_rfl) Try.func5
    (ChangeSpec.witness6 (enc := enc) (C := Try.checked) false ⟨#[], #[.slice none 0 0], []⟩ 8 (by kernel_rfl) (by kernel_rfl) (by kernel_rfl) (by kernel_rfl)) ?_
  intro W base args ds gs before hval0 hW hcnd _
  have hval : ∀ (j : Nat) t v, Try.f5.params[j]? = some t → args[j]? = some v → Value.okWide Try.prog W .any base t v := hval0
  have hW' := hW
  obtain ⟨p, q, hA0, hV, rfl, hfz, hnd⟩ := hW
  have hA : DataW.TrodAll enc Try.prog W 0 (fun _ => true) true Try.f5.params.toList args.toList ds p := hA0
  rw [Try.params5] at hA hval
  obtain ⟨v0, vs0, d0, ds0, p0, q0, hargs, rfl, rfl, h0, r0⟩ := trodAll_cons hA
  obtain ⟨rfl, rfl, rfl⟩ := trodAll_nil r0
  obtain rfl : args = #[v0] := by cases args; simp_all
  obtain ⟨rfl, rfl⟩ := trodVars_none hV
  have k0 := h0
  have lt0 : ∀ x ∈ p0, x.block < W.heap.size := by obtain ⟨m, hm⟩ := k0; exact DataW.trod_lt m _ _ _ hm
  obtain ⟨x0, y0⟩ := open_val Try.underlying22 (opens_slice Try.underlying22 (by kernel_rfl) (opens_u8 Try.underlying5)) (hval 0 22 v0 rfl rfl) h0
  clear hA0 hval0
  refine (walk W v0 x0 y0).mono fun e W' ⟨he, bel⟩ => ?_
  subst he
  exact ⟨_, rfl, _, _, _, [], _, [], hW', trodAll_mk1 (shut_bool Try.underlying4 _), (trodAll_cons_mk (Below.trod laid_ (by kernel_rfl) (of_decide_eq_true (by kernel_rfl)) k0 bel lt0) trodAll_mk0), rfl, bel.frame _, fun h => by cases h⟩

theorem over : Rows.fnDatabasesRow.holds Try.pinned (OpenSpec.ofChange Rows.fnDatabasesSpec) :=
  OpenClaim.holds_of_wide 5 Try.f5 rfl rfl rfl rfl rfl rfl rfl ⟨rfl, rfl, rfl, rfl, rfl⟩ rfl rfl rfl rfl rfl (by kernel_rfl) Try.func5 (by kernel_rfl)
    (of_decide_eq_true (by kernel_rfl)) (by unfold Func.isWrapper; first | (rw [if_pos (by decide +kernel)]; kernel_rfl) | (rw [if_neg (by decide +kernel)]; exact ⟨rfl, rfl⟩))
    (fun os started H enc _ => lifted os started H enc)

theorem proved : Rows.FnDatabasesSaid := over
end Go.Proofs.Ytceogegjghmonaa.fnDatabases
