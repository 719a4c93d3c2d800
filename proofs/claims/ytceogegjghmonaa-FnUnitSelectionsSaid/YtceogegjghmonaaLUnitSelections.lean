/- FnUnitSelections, for every argument, no condition: a unit selection selects exactly its row. -/
import Derived.Test.YtceogegjghmonaaAqAlg
import Derived.Test.YtceogegjghmonaaDraw2
import Derived.Test.YtceogegjghmonaaRowAt
import Derived.Test.YtceogegjghmonaaDb
import Derived.Test.YtceogegjghmonaaAt
namespace Go.Proofs.Ytceogegjghmonaa.fnUnitSelections
set_option linter.unusedVariables false
open Go.RowKit Go.ChangeShapes Go.WideShapes Go.ChangeAt

def oneRow (i : Nat) : List UInt8 := zcell.set 0 (UInt8.ofNat (i + 1))
def dbF (n k : Nat) : List (List UInt8) := (List.range n).map fun i => if i < k then oneRow i else zcell
theorem dbF_len (n k : Nat) : (dbF n k).length = n := by simp [dbF]
theorem dbF_get (n k i : Nat) (h : i < n) : (dbF n k)[i]? = some (if i < k then oneRow i else zcell) := by simp [dbF, h]
theorem dbF_zero (n : Nat) : dbF n 0 = List.replicate n zcell := by
  refine List.ext_getElem? (fun i => ?_)
  rw [List.getElem?_replicate]
  by_cases h : i < n
  · rw [dbF_get n 0 i h, if_pos h, if_neg (by omega)]
  · rw [List.getElem?_eq_none (by rw [dbF_len]; omega), if_neg h]
theorem dbF_set (n k : Nat) (h : k < n) : (dbF n k).set k (zcell.set 0 (UInt8.ofNat (k + 1))) = dbF n (k + 1) := by
  refine List.ext_getElem? (fun i => ?_)
  rw [List.getElem?_set, dbF_len]
  by_cases hi : i < n
  · rw [dbF_get n (k + 1) i hi]
    by_cases e : k = i
    · subst e
      rw [if_pos rfl, if_pos h, if_pos (by omega)]
      rfl
    · rw [if_neg e, dbF_get n k i hi]
      by_cases h2 : i < k
      · rw [if_pos h2, if_pos (by omega)]
      · rw [if_neg h2, if_neg (by omega)]
  · rw [List.getElem?_eq_none (l := dbF n (k + 1)) (by rw [dbF_len]; omega)]
    rw [if_neg (by omega), List.getElem?_eq_none (by rw [dbF_len]; omega)]
theorem selP_unit {n i : Nat} {d : List (List UInt8)} {x : List UInt8} (hd : d.length = n) (hu : unitOk (n : Int) (i : Int) = true) (hx : d[i]? = some x) (k : Nat) (hk : k ≤ n) : selP d (unitSel (n : Int) (i : Int)) k = if k ≤ i then [] else x := by
  induction k with
  | zero => rw [if_pos (Nat.zero_le _)]; rfl
  | succ k ih =>
    have ih := ih (by omega)
    have hg := unit_get hu (show k < n by omega)
    by_cases h : k = i
    · subst h
      rw [if_pos rfl] at hg
      rw [selP_succ_t hx hg, ih, if_pos (Nat.le_refl _), if_neg (by omega)]
      rfl
    · rw [if_neg h] at hg
      rw [selP_succ_f hg (by decide), ih]
      by_cases h2 : k ≤ i
      · rw [if_pos h2, if_pos (by omega)]
      · rw [if_neg h2, if_neg (by omega)]
def cntS (v : List Int) : Nat := (v.filter fun x => x == 1).length
theorem cntS_snoc (v : List Int) (x : Int) : cntS (v ++ [x]) = cntS v + if x = 1 then 1 else 0 := by
  unfold cntS
  rw [List.filter_append, List.length_append]
  by_cases h : x = 1 <;> simp [h]
theorem cntS_le (v : List Int) : cntS v ≤ v.length := List.length_filter_le _ _
theorem cntS_unit {n i : Nat} (hu : unitOk (n : Int) (i : Int) = true) (k : Nat) (hk : k ≤ n) : cntS ((unitSel (n : Int) (i : Int)).take k) = if k ≤ i then 0 else 1 := by
  induction k with
  | zero => simp [cntS]
  | succ k ih =>
    have ih := ih (by omega)
    have hg := unit_get hu (show k < n by omega)
    rw [take_succ_get _ k _ hg, cntS_snoc, ih]
    by_cases h : k = i
    · subst h
      simp
    · rw [if_neg h]
      by_cases h2 : k ≤ i
      · rw [if_pos h2, if_pos (show k + 1 ≤ i by omega)]; rfl
      · rw [if_neg h2, if_neg (show ¬ k + 1 ≤ i by omega)]; rfl

set_option maxHeartbeats 400000 in
theorem implCnt_c (v : Value) (xs : List Int) (w : World) (h : Rd RI w v xs) : Calls Try.prog 43 #[v] w fun e w' => e = .returned (.int .i64 (cntS xs : Nat)) ∧ w = w' := by
  obtain ⟨A, n, c, rfl, h'⟩ := h
  obtain rfl := h'.1
  have H := Lib.hid h'
  have hm := Nat.le_trans h'.2.1 h'.2.2.1
  unfold maxLen at hm
  clear h'
  go_enter Try.func43, Try.ntmps43
  go_wp2
  go_loop [3, 8] (fun c i => ∃ k : Nat, k ≤ xs.length ∧ i = .int .i64 k ∧ c = .int .i64 (cntS (xs.take k) : Nat)) (fun _ i => xs.length - (intOf i).toNat)
  case atStart => exact ⟨0, Nat.zero_le _, rfl, by simp [cntS]⟩
  case round =>
    obtain ⟨k, hk, rfl, rfl⟩ := hrel
    have hcl := cntS_le (xs.take k)
    have htl : (xs.take k).length ≤ k := List.length_take_le _ _
    by_cases hlt : k < xs.length
    · obtain ⟨b, off, x, u, rfl, hbb, hx, hu, hr⟩ := H.out.at_ hlt
      unfold RI at hr
      subst hr
      have HS := Lib.hid (show cntS (xs.take (k + 1)) = cntS (xs.take k) + if x = 1 then 1 else 0 by rw [take_succ_get xs k x hx, cntS_snoc])
      have hk0 : (0 : Int) ≤ (k : Int) := by omega
      have hkn : (k : Int) < (xs.length : Int) := by omega
      clear hx
      generalize cntS (xs.take k) = z at *
      by_cases h1 : x = 1
      · subst h1
        go_wp2
        go_round
        case rel => exact ⟨k + 1, by omega, by go_num, by rw [HS.out, if_pos rfl]; go_num⟩
        case measure => simp [intOf]; omega
      · have h1' : (x == 1) = false := by simpa using h1
        go_wp2
        go_round
        case rel => exact ⟨k + 1, by omega, by go_num, by rw [HS.out, if_neg h1]; go_num⟩
        case measure => simp [intOf]; omega
    · obtain rfl : xs.length = k := by omega
      have HT : Hid (xs.take xs.length = xs) := Lib.hid List.take_length
      rw [HT.out]
      go_wp2
      go_ret
      exact ⟨rfl, rfl⟩

set_option maxHeartbeats 1000000 in
theorem l5rows_c (V : Value) (xs : List UInt8) (g : Nat) (w0 w : World) (hx : Rd RB w0 V xs) (hn : xs.length ≤ 1048576) (h : CurT w0 V g w) :
    Calls Try.prog 105 #[.pointer (some ⟨g, 0, none⟩)] w (DrewN (-1) 65 w0 V g w) := by
  have hgl := h.lt
  have cw := Lib.hid (Chg.of_below (lo := g) (hi := g + 1) (below_alloc w (.cells #[.int .i64 (-1), .int .i64 0, .int .i64 1, .int .i64 4, .int .i64 9, .int .i64 64, .int .i64 65] 3)))
  have LI : Hid (Calls Try.prog 94 #[.pointer (some ⟨g, 0, none⟩), .slice (some ⟨w.heap.size, 0, none⟩) 7 7] (w.alloc (.cells #[.int .i64 (-1), .int .i64 0, .int .i64 1, .int .i64 4, .int .i64 9, .int .i64 64, .int .i64 65] 3)) (DrewN (-1) 65 w0 V g (w.alloc (.cells #[.int .i64 (-1), .int .i64 0, .int .i64 1, .int .i64 4, .int .i64 9, .int .i64 64, .int .i64 65] 3)))) := Lib.hid (by
    have r := rd_rowI (Row_lit (E := 3) (B := w.heap.size) w #[.int .i64 (-1), .int .i64 0, .int .i64 1, .int .i64 4, .int .i64 9, .int .i64 64, .int .i64 65] (Nat.le_refl _) (by simp [maxLen])).1 (xs := [-1, 0, 1, 4, 9, 64, 65]) rfl
    exact lint_c V xs g [-1, 0, 1, 4, 9, 64, 65] (-1) 65 w0 _ w.heap.size 0 7 7 hx hn (h.step (below_alloc w _)) r (by omega) (by omega) (by omega) (by simp))
  clear h hx
  go_enter Try.func105, Try.ntmps105
  go_wp2_with fail
  refine LI.out.mono ?_
  rintro e w1 ⟨r, hr, rfl, hc, hg⟩
  have C1 := Lib.hid hc
  have G1 := Lib.hid (cw.out.trans hg)
  clear hc hg
  go_wp2
  go_ret
  exact ⟨r, hr, rfl, C1.out, G1.out⟩
set_option maxHeartbeats 1000000 in
theorem drawUs_c (v : Value) (xs : List UInt8) (w : World) (hx : Rd RB w v xs) (hn : xs.length ≤ 1048576) :
    Calls Try.prog 40 #[v] w fun e w' => ∃ r i, e = .returned (.tuple #[.int .i64 r, .int .i64 i]) ∧ (-1 ≤ r ∧ r ≤ 65) ∧ (-1 ≤ i ∧ i ≤ 8) ∧ Below w.heap.size w w' := by
  have NE := Lib.hid (new_c v xs w hx hn)
  have HX := Lib.hid hx
  clear hx
  go_enter Try.func40, Try.ntmps40
  go_wp2_with fail
  refine NE.out.mono ?_
  rintro e w1 ⟨rfl, hc⟩
  have C1 := Lib.hid hc
  clear hc NE
  go_wp2_with fail
  refine (l5rows_c v xs w.heap.size w w1 HX.out hn C1.out).mono ?_
  rintro e w2 ⟨r, hr, rfl, hc, hg⟩
  have C2 := Lib.hid hc
  clear hc hg
  go_wp2_with fail
  refine (belowN_c v xs w.heap.size 10 w w2 HX.out hn (by omega) (by omega) C2.out).mono ?_
  rintro e w3 ⟨i, hi, rfl, hc, hg⟩
  have T := Lib.hid hc.below
  clear hc hg
  go_wp2
  refine bodyPost_ret (v := .tuple #[.int .i64 r, .int .i64 (i - 1)]) (by simp [results, Try.results40, go_sem]) rfl ?_
  exact ⟨r, i - 1, rfl, hr, by omega, T.out⟩

set_option maxHeartbeats 1000000 in
set_option maxRecDepth 100000 in
theorem walk (w : World) (v0 : Value) (x0 : List UInt8) (y0 : Rd RB w v0 x0) :
    Calls Try.prog 6 #[v0] w fun e w' => e = .returned (.bool true) ∧ Below w.heap.size w w' := by
  by_cases hl : x0.length ≤ 1048576
  · have HB := Lib.hid (big_f _ x0 w y0 hl)
    have DR := Lib.hid (drawUs_c _ x0 w y0 hl)
    clear y0 hl
    go_enter Try.func6, Try.ntmps6
    go_wp2_with fail
    refine HB.out.mono ?_
    rintro e w' ⟨rfl, rfl⟩
    go_wp2_with fail
    refine DR.out.mono ?_
    rintro e w1 ⟨r, i, rfl, hr, hi, T1⟩
    clear DR HB
    go_wp2_with fail
    refine (implUnit_c r i w1 (by omega) (by omega) (by omega) (by omega)).mono ?_
    rintro e w2 ⟨v2, rfl, F2⟩
    obtain ⟨Av, nv, cv, rfl⟩ := fresh_slice F2
    have rv := (F2.iv (Own_good FI_good)).rd (R' := RI) (fun q => q.ri)
    have T2 := T1.trans (F2.below.mono T1.size)
    have RV := Lib.hid rv
    have hnv := rv.at_same.1
    clear F2 rv
    by_cases hok : (1 ≤ r ∧ r ≤ 64) ∧ 0 ≤ i ∧ i ≤ r - 1
    · obtain ⟨n, rfl⟩ := Int.eq_ofNat_of_zero_le (show 0 ≤ r by omega)
      obtain ⟨j, rfl⟩ := Int.eq_ofNat_of_zero_le hok.2.1
      have hu : unitOk (n : Int) (j : Int) = true := by unfold unitOk; exact decide_eq_true hok
      have hn1 : 1 ≤ n := by omega
      have hn64 : n ≤ 64 := by omega
      have hjn : j < n := by omega
      have hlu : (unitSel (n : Int) (j : Int)).length = n := (S.unit hu).2.1
      obtain rfl : n = nv := by rw [← hnv, hlu]
      have HU := Lib.hid hu
      have ej := unit_get hu hjn
      rw [if_pos rfl] at ej
      have hcnt : cntS (unitSel (n : Int) (j : Int)) = 1 := by
        have := cntS_unit hu n (Nat.le_refl _)
        rw [List.take_of_length_le (by omega), if_neg (by omega)] at this
        exact this
      have HC := Lib.hid hcnt
      have EJ := Lib.hid ej
      have HLU := Lib.hid hlu
      clear hok hu hnv hlu ej hcnt
      go_wp2_with fail
      refine (implNewDatabase_c (n : Int) w2 (by omega) (by omega)).mono ?_
      rintro e w3 ⟨A, l, c, rfl, F3⟩
      have hnd : newDb (n : Int) = dbF n 0 := by unfold newDb; rw [if_pos ⟨by omega, by omega⟩, Int.toNat_natCast, dbF_zero]
      rw [hnd] at F3
      have N3 := F3.nrow
      rw [dbF_len] at N3
      have B23 := F3.below
      have hs23 := B23.size
      obtain ⟨g, rfl, hgB, hgl, hlc⟩ : ∃ g, A = some ⟨g, 0, none⟩ ∧ w2.heap.size ≤ g ∧ g < w3.heap.size ∧ l = n := by
        rcases N3.form with ⟨_, h0⟩ | ⟨g, cap, hh, _, _, h3, h4⟩
        · omega
        · injection hh with e1 e2 e3
          exact ⟨g, e1, h3, h4, e2⟩
      obtain rfl : n = l := hlc.symm
      have NQ := Lib.hid ((N3.nrq (Q := fun b => w2.heap.size ≤ b ∧ b < w3.heap.size) (Own_good FB_good) (fun b hb hlt => ⟨hb, hlt⟩)).below (Own_good FB_good) (below_alloc w3 (.cells #[.slice (some ⟨g, 0, none⟩) n c] 26)))
      have B24 := Lib.hid (B23.alloc B23.size (.cells #[.slice (some ⟨g, 0, none⟩) n c] 26))
      have BX4 := Lib.hid (Box.new w3 26 #[.slice (some ⟨g, 0, none⟩) n c])
      clear F3 N3 hnd B23
      go_wp2_with fail
      generalize hw4 : w3.alloc (.cells #[.slice (some ⟨g, 0, none⟩) n c] 26) = w4 at *
      have hs4 : w3.heap.size < w4.heap.size := BX4.out.lt
      clear hw4
      go_loopw [7] (fun o wr => ∃ k : Nat, k ≤ n ∧ o = .int .i64 k ∧ Hid (NRQ 22 (Own 5 FB) (fun b => w2.heap.size ≤ b ∧ b < w3.heap.size) wr (.slice (some ⟨g, 0, none⟩) n c) n (dbF n k) ∧ KeepQ (fun b => w2.heap.size ≤ b ∧ b < w3.heap.size) w4 wr)) (fun o _ => n - (intOf o).toNat)
      case atStart => exact ⟨0, Nat.zero_le _, rfl, Lib.hid ⟨NQ.out, KeepQ.refl _ _⟩⟩
      case round =>
        obtain ⟨k, hk, rfl, HN⟩ := hrel
        have BXr : Hid (Box wr w3.heap.size 26 #[.slice (some ⟨g, 0, none⟩) n c]) := Lib.hid ((HN.out.2.block w3.heap.size BX4.out.lt (fun q => by omega)).trans BX4.out)
        have cb : wr.cell? ⟨w3.heap.size, 0, none⟩ = some (.slice (some ⟨g, 0, none⟩) n c) := BXr.out.cell 0
        by_cases hlt : k < n
        · have hmg := dbF_get n k k hlt
          rw [if_neg (Nat.lt_irrefl k)] at hmg
          obtain ⟨u, q1, q2, q3, q4, q5, q6, _, q8⟩ := HN.out.1.rowAtB hmg
          rw [zcell_len] at q4
          obtain ⟨gk, ck, rfl⟩ : ∃ gk ck, u = .slice (some ⟨gk, 0, none⟩) 24 ck := by
            rcases q4.2 with ⟨_, h0⟩ | ⟨g', cc, cur, hh, _⟩
            · omega
            · exact ⟨g', cc, hh⟩
          have hgk := q5 gk rfl
          have cst := q4.cellAt 0 (by omega)
          have cst1 : wr.cell? ⟨gk, 0, none⟩ = some (.int .u8 0) := cst.trans rfl
          have fst_ := q4.frozenAt 0
          have N5 := q8 gk 0 (UInt8.ofNat (k + 1)) rfl
          rw [dbF_set n k hlt] at N5
          have hv8 : ((UInt8.ofNat (k + 1)).toNat : Int) = (k : Int) + 1 := by
            have := u8_of ((k : Int) + 1) (by omega)
            rwa [show ((k : Int) + 1).toNat = k + 1 by omega] at this
          rw [hv8] at N5
          have K5 := HN.out.2.set (p := ⟨gk, 0, none⟩) hgk.1 (.int .u8 ((k : Int) + 1))
          have HF := Lib.hid (And.intro N5 K5)
          have hk0 : (0 : Int) ≤ (k : Int) := by omega
          have hkn : (k : Int) < (n : Int) := by omega
          clear hmg q4 q5 q6 q8 cst N5 K5 hv8
          go_wp2
          go_roundw
          case rel => exact ⟨k + 1, by omega, by go_num, HF⟩
          case measure => simp [intOf]; omega
        · obtain rfl : n = k := by omega
          have B2r : Below w2.heap.size w2 wr := HN.out.2.below (fun k hk q => by omega) (by omega) B24.out
          have rv := Rd_reads RI_reads _ _ _ _ RV.out B2r
          have NR := HN.out.1.nrow (B := 0) (fun b _ => Nat.zero_le _)
          have rd := NR.rd (R' := Rd RB) (fun q => q.rd (fun z => z.rb))
          have hxj := dbF_get n n j hjn
          rw [if_pos hjn] at hxj
          have hsel : selX (dbF n n) (unitSel (n : Int) (j : Int)) = oneRow j := by
            unfold selX
            rw [selP_unit (dbF_len n n) HU.out hxj _ (by rw [dbF_len]; exact Nat.le_refl _), if_neg (by rw [dbF_len]; omega)]
          have hL24 : LenB 24 (dbF n n) := fun x hx => by
            simp only [dbF, List.mem_map] at hx
            obtain ⟨i, _, rfl⟩ := hx
            split
            · simp [oneRow, zcell]
            · exact zcell_len
          have htt : tot (dbF n n) ≤ 1048576 := by
            have h1 := sumL_le24 (dbF n n) hL24
            unfold tot
            rw [dbF_len] at *
            omega
          have hsx := implSelX_c _ _ (dbF n n) (unitSel (n : Int) (j : Int)) wr rd rv htt
          rw [hsel] at hsx
          have T5 := T2.trans (B2r.mono T2.size)
          have RVr := Lib.hid rv
          clear NR rd hxj hsel hL24 htt rv
          go_wp2_with fail
          refine hsx.mono ?_
          rintro e w6 ⟨v6, rfl, F6⟩
          obtain ⟨Ax, nx, cx, rfl⟩ := fresh_slice F6
          have rx := (F6.iv (Own_good FB_good)).rd (R' := RB) (fun q => q.rb)
          have hxl : (oneRow j).length = 24 := by simp [oneRow, zcell]
          obtain rfl : 24 = nx := by have := rx.at_same.1; omega
          obtain ⟨bx, ox, x, u, rfl, hbx, hx0, hxu, hxr⟩ := rx.at_same.at_ (show 0 < 24 by omega)
          have hx1 : (oneRow j)[0]? = some (UInt8.ofNat (j + 1)) := by simp [oneRow, zcell]
          rw [hx1] at hx0
          injection hx0 with hx0
          subst hx0
          unfold RB at hxr
          subst hxr
          have hv8 : ((UInt8.ofNat (j + 1)).toNat : Int) = (j : Int) + 1 := by
            have := u8_of ((j : Int) + 1) (by omega)
            rwa [show ((j : Int) + 1).toNat = j + 1 by omega] at this
          rw [hv8, Nat.add_zero] at hxu
          have rv6 := Rd_reads RI_reads _ _ _ _ RVr.out F6.below
          obtain ⟨bv, ov, y, uv, rfl, hbv, hy0, hyu, hyr⟩ := rv6.at_same.at_ hjn
          rw [EJ.out] at hy0
          injection hy0 with hy0
          subst hy0
          unfold RI at hyr
          subst hyr
          have CN := implCnt_c _ _ w6 rv6
          rw [HC.out] at CN
          have T6 := T5.trans (F6.below.mono T5.size)
          have hj0 : (0 : Int) ≤ (j : Int) := by omega
          have hjn' : (j : Int) < (n : Int) := by omega
          clear F6 rx hxl hx1 hv8 rv6 hsx
          go_wp2_with fail
          refine CN.mono ?_
          rintro e w' ⟨rfl, rfl⟩
          go_wp2
          go_ret
          exact ⟨rfl, T6⟩
    · have e0 : unitSel r i = [] := by unfold unitSel unitOk; rw [decide_eq_false hok]; rfl
      rw [e0] at hnv
      obtain rfl : 0 = nv := hnv
      clear e0 RV
      by_cases h1 : r < 1
      · go_wp2
        go_ret
        exact ⟨rfl, T2⟩
      · by_cases h2 : 64 < r
        · go_wp2
          go_ret
          exact ⟨rfl, T2⟩
        · by_cases h3 : i < 0
          · go_wp2
            go_ret
            exact ⟨rfl, T2⟩
          · have h4 : r ≤ i := by omega
            go_wp2
            go_ret
            exact ⟨rfl, T2⟩
  · have HB := Lib.hid (big_t _ x0 w y0 hl)
    clear y0 hl
    go_enter Try.func6, Try.ntmps6
    go_wp2_with fail
    refine HB.out.mono ?_
    rintro e w' ⟨rfl, rfl⟩
    go_wp2
    go_ret
    exact ⟨rfl, Below.refl _ _⟩

set_option maxRecDepth 100000 in
theorem lifted (os : Os) (started : os.Started) (H : Type) (enc : TypeId × Value → H) :
    ReturnsInHanded {} Try.checked os 6 .any (Rows.fnUnitSelectionsSpec.pre6 enc Try.prog Try.f6 Rows.fnUnitSelectionsRow.domain false) (Rows.fnUnitSelectionsSpec.post enc Try.prog Try.f6 false true false false) := by
  refine returnsInHanded_of_change (C := Try.checked) own_ started (by kernel_rfl) Try.func6
    (ChangeSpec.witness6 (enc := enc) (C := Try.checked) false ⟨#[], #[.slice none 0 0], []⟩ 8 (by kernel_rfl) (by kernel_rfl) (by kernel_rfl) (by kernel_rfl)) ?_
  intro W base args ds gs before hval0 hW hcnd _
  have hval : ∀ (j : Nat) t v, Try.f6.params[j]? = some t → args[j]? = some v → Value.okWide Try.prog W .any base t v := hval0
  have hW' := hW
  obtain ⟨p, q, hA0, hV, rfl, hfz, hnd⟩ := hW
  have hA : DataW.TrodAll enc Try.prog W 0 (fun _ => true) true Try.f6.params.toList args.toList ds p := hA0
  rw [Try.params6] at hA hval
  obtain ⟨v0, vs0, d0, ds0, p0, q0, hargs, rfl, rfl, h0, r0⟩ := trodAll_cons hA
  obtain ⟨rfl, rfl, rfl⟩ := trodAll_nil r0
  obtain rfl : args = #[v0] := by cases args; simp_all
  obtain ⟨rfl, rfl⟩ := trodVars_none hV
  have k0 := h0
  have lt0 : ∀ x ∈ p0, x.block < W.heap.size := by obtain ⟨m, hm⟩ := k0; exact DataW.trod_lt m _ _ _ hm
  obtain ⟨x0, y0⟩ := open_val Try.underlying22 (opens_slice Try.underlying22 (by kernel_rfl) (opens_u8 Try.underlying5)) (hval 0 22 v0 rfl rfl) h0
  clear hA0 hval0
  refine (walk W v0 x0 y0).mono fun e W' ⟨he, bel⟩ => ?_
  subst he
  exact ⟨_, rfl, _, _, _, [], _, [], hW', trodAll_mk1 (shut_bool Try.underlying4 _), (trodAll_cons_mk (Below.trod laid_ (by kernel_rfl) (of_decide_eq_true (by kernel_rfl)) k0 bel lt0) trodAll_mk0), rfl, bel.frame _, fun h => by cases h⟩

theorem over : Rows.fnUnitSelectionsRow.holds Try.pinned (OpenSpec.ofChange Rows.fnUnitSelectionsSpec) :=
  OpenClaim.holds_of_wide 6 Try.f6 rfl rfl rfl rfl rfl rfl rfl ⟨rfl, rfl, rfl, rfl, rfl⟩ rfl rfl rfl rfl rfl (by kernel_rfl) Try.func6 (by kernel_rfl)
    (of_decide_eq_true (by kernel_rfl)) (by unfold Func.isWrapper; first | (rw [if_pos (by decide +kernel)]; kernel_rfl) | (rw [if_neg (by decide +kernel)]; exact ⟨rfl, rfl⟩))
    (fun os started H enc _ => lifted os started H enc)

theorem proved : Rows.FnUnitSelectionsSaid := over
end Go.Proofs.Ytceogegjghmonaa.fnUnitSelections
