/- FnShares, for every argument, no condition: all shares together yield the secret, refreshed shares too, and without one share every secret is possible. -/
import Derived.Test.YtceogegjghmonaaMiss
import Derived.Test.YtceogegjghmonaaDrawSb
import Derived.Test.YtceogegjghmonaaAppOld
import Derived.Test.YtceogegjghmonaaAt
import Derived.Test.YtceogegjghmonaaSame
import Derived.Test.YtceogegjghmonaaShallow
import Derived.Test.YtceogegjghmonaaKeep
namespace Go.Proofs.Ytceogegjghmonaa.fnShares
set_option linter.unusedVariables false
open Go.RowKit Go.ChangeShapes Go.WideShapes Go.ChangeAt

theorem rest_fact {w1 w5 w7 : World} {v5 : Value} {n : Nat} {cells : List Value} {xs : List (List UInt8)} (hw5 : Below w1.heap.size w1 w5) (hr : Row 22 w1.heap.size w5 v5 n cells) (hz : Zip (Rd RB) w1 cells xs) (hb : Below w1.heap.size w1 w7) (hk : OldKept v5 cells w7) : Rd (Rd RB) w7 v5 xs := by
  obtain ⟨h1, h2⟩ := hr
  have hx : xs.length = n := by have := h1.1; have := hz.1; omega
  rcases h1.2 with ⟨rfl, h0⟩ | ⟨g, cap, cur, rfl, _, hg, hn, hc, hs, ht⟩
  · exact ⟨none, 0, 0, rfl, by omega, Nat.le_refl _, by simp [maxLen], fun h => by omega⟩
  · refine ⟨some ⟨g, 0, none⟩, xs.length, cap, by rw [hx], rfl, by omega, hc, fun h0 => ?_⟩
    have hcell : ∀ (j : Nat) (x : List UInt8), xs[j]? = some x → ∃ u, w7.cell? ⟨g, 0 + j, none⟩ = some u ∧ Rd RB w7 u x := fun j x hj => by
      have hjl : j < cells.length := by have := hz.1; have := (List.getElem?_eq_some_iff.1 hj).1; omega
      have hu := List.getElem?_eq_getElem hjl
      exact ⟨cells[j], by rw [Nat.zero_add]; exact hk g rfl j _ hu, Rd_reads RB_reads _ _ _ _ (hz.2 j _ x hu hj) hb⟩
    obtain ⟨u, hu, _⟩ := hcell 0 _ (List.getElem?_eq_getElem h0)
    exact ⟨g, 0, rfl, World.block_lt_of_cell? w7 _ hu, hcell⟩

set_option maxHeartbeats 4000000 in
set_option maxRecDepth 100000 in
theorem walk (w : World) (v0 : Value) (x0 : List UInt8) (y0 : Rd RB w v0 x0) :
    Calls Try.prog 4 #[v0] w fun e w' => e = .returned (.bool true) ∧ Below w.heap.size w w' := by
  by_cases hl : x0.length ≤ 1048576
  · obtain ⟨A, n, c, rfl, h'⟩ := y0
    have y0 : Rd RB w (.slice A n c) x0 := ⟨_, _, _, rfl, h'⟩
    clear h'
    have AT : Hid (∀ (i : Int) (W : World), Below w.heap.size w W → 0 ≤ i → i ≤ 1000000 → Calls Try.prog 27 #[.slice A n c, .int .i64 i] W fun e w' => e = .returned (.int .i64 (atI x0 i)) ∧ W = w') := Lib.hid (fun i W b h0 h1 => at_c _ x0 i W (Rd_reads RB_reads _ _ _ _ y0 b) hl h0 h1)
    have HB := Lib.hid (big_f _ x0 w y0 hl)
    have DR := Lib.hid (drawSb_c _ x0 w y0 hl)
    clear y0 hl
    go_enter Try.func4, Try.ntmps4
    go_wp2_with fail
    refine HB.out.mono ?_
    rintro e w' ⟨rfl, rfl⟩
    go_wp2_with fail
    refine DR.out.mono ?_
    rintro e w1 ⟨A1, n1, c1, A2, n2, c2, b, seeds, rfl, R1, R2, hbl, hsl, T1⟩
    have hn1 := R1.at_same.1
    have hn2 := R2.at_same.1
    subst hn1 hn2
    have HR1 := Lib.hid R1
    have HR2 := Lib.hid R2
    clear DR R1 R2
    go_wp2_with fail
    refine (implSb_c _ _ b seeds w1 HR1.out HR2.out (by omega) (by omega)).mono ?_
    rintro e w2 ⟨v2, rfl, F2⟩
    obtain ⟨Al, nl, cl, rfl⟩ := fresh_slice F2
    have T2 := T1.trans (F2.below.mono T1.size)
    have rl := ((F2.iv (Own_good (Own_good FB_good))).rd (R' := Rd RB) (fun q => q.rd (fun z => z.rb)))
    have hnl := rl.at_same.1
    have HRL := Lib.hid rl
    have B12 := Lib.hid F2.below
    have r1 := Lib.hid (Rd_reads RB_reads _ _ _ _ HR1.out F2.below)
    have r2 := Lib.hid (Rd_reads RI_reads _ _ _ _ HR2.out F2.below)
    clear F2 rl
    by_cases hok : (1 ≤ seeds.length ∧ seeds.length ≤ 3) ∧ b.length ≤ 400
    · obtain ⟨⟨hs1, hs3⟩, hb4⟩ := hok
      have sok := sbOk_of (xs := b) (seeds := seeds) hs1 hs3 hb4
      have hcnt := sb_cnt sok
      have hL := sb_Len sok hb4
      have hall := sb_all sok hb4
      have hjs := jsOk_Len hL (by omega) (by omega)
      have htot := tot_LenB hL (by omega) hb4
      have hjb : jsh (sb b seeds) = b := by rw [jsh_yes hjs, hall]
      obtain ⟨l, hle⟩ : ∃ l, sb b seeds = l := ⟨_, rfl⟩
      have RFL : Hid (∀ fresh : List Int, fresh.length = seeds.length → rfOk l fresh = true ∧ jsOk (rf l fresh) = true ∧ jsh (rf l fresh) = b ∧ LenB b.length (rf l fresh) ∧ (rf l fresh).length = seeds.length + 1) := Lib.hid (fun fr hf => by rw [← hle]; exact rf_law sok hb4 hs1 hs3 hf)
      rw [hle] at hcnt hL hall hjs htot hjb HRL hnl
      have HL := Lib.hid hL
      have HALL := Lib.hid hall
      have HJB := Lib.hid hjb
      have HJS := Lib.hid hjs
      have HTOT := Lib.hid htot
      obtain ⟨p, hp⟩ : ∃ p, seeds.length = p := ⟨_, rfl⟩
      obtain ⟨q, hq⟩ : ∃ q, b.length = q := ⟨_, rfl⟩
      rw [hp] at hcnt hs1 hs3
      rw [hq] at hb4
      have HP := Lib.hid hp
      have HQ := Lib.hid hq
      obtain rfl : p + 1 = nl := by omega
      have HCNT := Lib.hid hcnt
      clear hcnt hL hall hjs htot hjb sok hle hnl hsl hbl
      rw [hp] at r2
      rw [hq] at r1
      have T2H := Lib.hid T2
      have hp0 : (0 : Int) ≤ (p : Int) := by omega
      rw [hp, hq]
      clear hp hq
      have hmkI : ∀ W : World, (Instr.makeSlice 27 (.int .i64 p) (.int .i64 p)).run Try.prog W = .ok (.slice (some ⟨W.heap.size, 0, none⟩) p p) (W.alloc (.cells (madeCells #[.int .i64 0] p) 3)) := fun W => by
        simpa using run_mk elI .i64 .i64 p (by omega) (by omega) W
      have hmkB : ∀ W : World, (Instr.makeSlice 22 (.int .i64 q) (.int .i64 q)).run Try.prog W = .ok (.slice (some ⟨W.heap.size, 0, none⟩) q q) (W.alloc (.cells (madeCells #[.int .u8 0] q) 5)) := fun W => by
        simpa using run_mk elB .i64 .i64 q (by omega) (by omega) W
      go_wp2_with fail
      refine (implJoinSh_c _ l true w2 HRL.out HJS HTOT.out).mono ?_
      rintro e w3 ⟨v3, rfl, F3⟩
      obtain ⟨Ax, nx, cx, rfl⟩ := fresh_slice F3
      rw [HJB.out] at F3
      have B23 := Lib.hid F3.below
      have T3 := T2.trans (F3.below.mono T2.size)
      have rx := Lib.hid ((F3.iv (Own_good FB_good)).rd (R' := RB) (fun q => q.rb))
      clear F3
      have FI0 := Lib.hid (own_made (E := 3) w3 (.int .i64 0) p (by simp only [maxLen]; omega))
      have B3 := Lib.hid (below_alloc w3 (.cells (madeCells #[.int .i64 0] p) 3))
      go_wp2
      go_loopw [9] (fun i wr => ∃ (k : Nat) (ys : List Int), k ≤ p ∧ ys.length = p ∧ i = .int .i64 k ∧ Hid (wr.ownsRow 0 3 1 (.slice (some ⟨w3.heap.size, 0, none⟩) p p) p (ys.map fun x => Value.int .i64 x) ∧ Below w3.heap.size w3 wr)) (fun i _ => p - (intOf i).toNat)
      case atStart => exact ⟨0, List.replicate p 0, Nat.zero_le _, List.length_replicate, rfl, Lib.hid ⟨by rw [List.map_replicate]; exact FI0.out, B3.out⟩⟩
      case round =>
        obtain ⟨k, ys, hk, hys, rfl, HH⟩ := hrel
        have HYS := Lib.hid hys
        have hs3 := HH.out.2.size
        have T4 := T3.trans (HH.out.2.mono T3.size)
        clear hys
        by_cases hlt : k < p
        · obtain ⟨a, ha⟩ : ∃ a, atI x0 (k : Int) = a := ⟨_, rfl⟩
          have hab := atI_bd x0 (k : Int)
          rw [ha] at hab
          have HA := Lib.hid ha
          obtain ⟨y, hy⟩ : ∃ y, ys[k]? = some y := ⟨ys[k]'(by rw [HYS.out]; exact hlt), List.getElem?_eq_getElem _⟩
          have c1 := (HH.out.1.cellAt k (by omega)).trans (show (ys.map fun x => Value.int .i64 x)[k]? = some (.int .i64 y) by rw [List.getElem?_map, hy]; rfl)
          have f1 := HH.out.1.frozenAt k
          have hkn : (k : Int) < (p : Int) := by omega
          have hk0 : (0 : Int) ≤ (k : Int) := by omega
          have st := (HH.out.1.stored k (.int .i64 (a + 5))).1
          rw [← List.map_set (f := fun x => Value.int .i64 x) (l := ys) (a := a + 5)] at st
          have HF := Lib.hid (And.intro st (HH.out.2.setCell (p := ⟨w3.heap.size, k, none⟩) (Nat.le_refl _) (.int .i64 (a + 5))))
          clear ha hy st
          go_wp2_with fail
          refine (AT.out (k : Int) _ T4 (by omega) (by omega)).mono ?_
          rintro e w' ⟨rfl, rfl⟩
          rw [HA.out]
          go_wp2
          go_roundw
          case rel => exact ⟨k + 1, ys.set k (a + 5), by omega, by rw [List.length_set]; exact HYS.out, by go_num, HF⟩
          case measure => simp [intOf]; omega
        · obtain rfl : p = k := by omega
          have RF := Lib.hid (RFL.out ys (by rw [HYS.out]; exact HP.out.symm))
          have rfr := Lib.hid (rd_rowI HH.out.1 rfl)
          have b34 := HH.out.2
          have rl4 := Rd_reads (Rd_reads RB_reads) _ _ _ _ HRL.out (B23.out.trans (b34.mono B23.out.size))
          obtain ⟨m, hme⟩ : ∃ m, rf l ys = m := ⟨_, rfl⟩
          rw [hme] at RF
          have HM := Lib.hid hme
          clear HH hme hs3
          have hfr := implRf_c _ _ l ys true wr rl4 rfr.out (Lib.hid (RFL.out ys (by rw [HYS.out]; exact HP.out.symm)).1) HTOT.out (by rw [HYS.out]; omega)
          rw [HM.out] at hfr
          clear rl4
          go_wp2_with fail
          refine hfr.mono ?_
          rintro e w5 ⟨v5, rfl, F5⟩
          obtain ⟨Am, nm, cm, rfl⟩ := fresh_slice F5
          have rm := ((F5.iv (Own_good (Own_good FB_good))).rd (R' := Rd RB) (fun q => q.rd (fun z => z.rb)))
          have T5 := T4.trans (F5.below.mono T4.size)
          have B35 := b34.trans (F5.below.mono b34.size)
          clear F5
          have hj2 := implJoinSh_c _ m true w5 rm (Lib.hid RF.out.2.1) (tot_LenB RF.out.2.2.2.1 (by rw [RF.out.2.2.2.2, HP.out]; omega) (by rw [HQ.out]; exact hb4))
          rw [RF.out.2.2.1] at hj2
          clear rm b34 T4
          go_wp2_with fail
          refine hj2.mono ?_
          rintro e w6 ⟨v6, rfl, F6⟩
          obtain ⟨Ay, ny, cy, rfl⟩ := fresh_slice F6
          have ry := (F6.iv (Own_good FB_good)).rd (R' := RB) (fun q => q.rb)
          have T6 := T5.trans (F6.below.mono T5.size)
          have B36 := B35.trans (F6.below.mono B35.size)
          have B26 := B23.out.trans (B36.mono B23.out.size)
          clear F6 T5 B35 RF rfr hfr
          have rx6 := Rd_reads RB_reads _ _ _ _ rx.out B36
          have rb6 := Rd_reads RB_reads _ _ _ _ r1.out B26
          go_wp2_with fail
          refine (sameB_c _ _ b w6 rx6 rb6).mono ?_
          rintro e w7 ⟨rfl, b67⟩
          have ry7 := Rd_reads RB_reads _ _ _ _ ry b67
          have rb7 := Rd_reads RB_reads _ _ _ _ rb6 b67
          have T7 := T6.trans (b67.mono T6.size)
          have B27 := B26.trans (b67.mono B26.size)
          clear rx6 rb6 ry b67 T6 B36 B26
          go_wp2_with fail
          refine (sameB_c _ _ b w7 ry7 rb7).mono ?_
          rintro e w8 ⟨rfl, b78⟩
          have T8 := T7.trans (b78.mono T7.size)
          have B28 := B27.trans (b78.mono B27.size)
          clear ry7 rb7 b78 T7 B27
          have OB0 := Lib.hid (own_made (E := 5) w8 (.int .u8 0) q (by simp only [maxLen]; omega))
          have B8 := Lib.hid (below_alloc w8 (.cells (madeCells #[.int .u8 0] q) 5))
          go_wp2
          go_loopw [15] (fun i wr => ∃ (k : Nat) (zs : List UInt8), k ≤ q ∧ zs.length = q ∧ i = .int .i64 k ∧ Hid (wr.ownsRow 0 5 1 (.slice (some ⟨w8.heap.size, 0, none⟩) q q) q (zs.map fun x => Value.int .u8 (x.toNat : Int)) ∧ Below w8.heap.size w8 wr)) (fun i _ => q - (intOf i).toNat)
          case atStart => exact ⟨0, List.replicate q 0, Nat.zero_le _, List.length_replicate, rfl, Lib.hid ⟨by rw [List.map_replicate]; exact OB0.out, B8.out⟩⟩
          case round =>
            obtain ⟨k, zs, hk, hzs, rfl, HH⟩ := hrel
            have HZS := Lib.hid hzs
            have hs8 := HH.out.2.size
            have T9 := T8.trans (HH.out.2.mono T8.size)
            clear hzs
            by_cases hlt : k < q
            · obtain ⟨a, ha⟩ : ∃ a, atI x0 (k : Int) = a := ⟨_, rfl⟩
              have hab := atI_bd x0 (k : Int)
              rw [ha] at hab
              have HA := Lib.hid ha
              obtain ⟨y, hy⟩ : ∃ y, zs[k]? = some y := ⟨zs[k]'(by rw [HZS.out]; exact hlt), List.getElem?_eq_getElem _⟩
              have c1 := (HH.out.1.cellAt k (by omega)).trans (show (zs.map fun x => Value.int .u8 (x.toNat : Int))[k]? = some (.int .u8 (y.toNat : Int)) by rw [List.getElem?_map, hy]; rfl)
              have f1 := HH.out.1.frozenAt k
              have hkn : (k : Int) < (q : Int) := by omega
              have hk0 : (0 : Int) ≤ (k : Int) := by omega
              have st := (HH.out.1.stored k (.int .u8 a)).1
              rw [show Value.int .u8 a = (fun x : UInt8 => Value.int .u8 (x.toNat : Int)) (UInt8.ofNat a.toNat) by simp only [u8_of a hab], ← List.map_set, show (fun x : UInt8 => Value.int .u8 (x.toNat : Int)) (UInt8.ofNat a.toNat) = Value.int .u8 a by simp only [u8_of a hab]] at st
              have HF := Lib.hid (And.intro st (HH.out.2.setCell (p := ⟨w8.heap.size, k, none⟩) (Nat.le_refl _) (.int .u8 a)))
              have hyb := y.toNat_lt
              clear ha hy st
              go_wp2_with fail
              refine (AT.out (k : Int) _ T9 (by omega) (by omega)).mono ?_
              rintro e w' ⟨rfl, rfl⟩
              rw [HA.out]
              go_wp2
              go_roundw
              case rel => exact ⟨k + 1, zs.set k (UInt8.ofNat a.toNat), by omega, by rw [List.length_set]; exact HZS.out, by go_num, HF⟩
              case measure => simp [intOf]; omega
            · obtain rfl : q = k := by omega
              have ro := Lib.hid (rd_rowB HH.out.1 rfl)
              have B2r := Lib.hid (B28.trans (HH.out.2.mono B28.size))
              have rl9 := Rd_reads (Rd_reads RB_reads) _ _ _ _ HRL.out B2r.out
              have rb9 := Lib.hid (Rd_reads RB_reads _ _ _ _ r1.out B2r.out)
              obtain ⟨a0, e0⟩ : ∃ a, atI x0 0 = a := ⟨_, rfl⟩
              have b0 := atI_bd x0 0
              rw [e0] at b0
              have E0 := Lib.hid e0
              clear HH hs8 B28 T8 e0
              obtain ⟨bl, ol, rfl, hbl, _⟩ := rl9.at_same.2.2.2 (by omega)
              have hcl := rl9.at_same.2.1
              obtain ⟨cells, hsrc, hzip⟩ := rl9.at_same.src_zip
              have SR := Lib.hid hsrc
              have ONE : Hid (∀ u ∈ cells, u.oneCell' = true) := Lib.hid (fun u hu => by
                obtain ⟨i, hi⟩ := List.mem_iff_getElem?.1 hu
                have hkl : i < l.length := by have := (List.getElem?_eq_some_iff.1 hi).1; rw [hzip.1] at this; exact this
                obtain ⟨_, _, _, rfl, _⟩ := hzip.2 i u _ hi (List.getElem?_eq_getElem hkl)
                rfl)
              have ZP := Lib.hid hzip
              have RL9 := Lib.hid rl9
              clear hsrc hzip rl9
              go_wp2_with fail
              refine (AT.out 0 _ T9 (by omega) (by omega)).mono ?_
              rintro e w' ⟨rfl, rfl⟩
              rw [E0.out]
              obtain ⟨o, ho⟩ : ∃ o : Nat, a0 % ((p : Int) + 1) = (o : Int) := ⟨(a0 % ((p : Int) + 1)).toNat, by have := Int.emod_nonneg a0 (show ((p : Int) + 1) ≠ 0 by omega); omega⟩
              have ho3 : o < p + 1 := by have := Int.emod_lt_of_pos a0 (show 0 < (p : Int) + 1 by omega); omega
              have ho4 : o ≤ cl := by omega
              have ho5 : (o : Int) + 1 ≤ (p : Int) + 1 := by omega
              have hw1 : IntKind.i64.wrap ((o : Int) + 1) = ((o + 1 : Nat) : Int) := by rw [IntWalk.i64_in _ (by omega)]; omega
              have hw2 : (0 : Int) ≤ (o : Int) + 1 := by omega
              have r0 : Row 22 wr.heap.size (wr.drew.alloc (.cells #[] 22)) (.slice (some ⟨wr.heap.size, 0, none⟩) 0 0) 0 [] := Row_lit (E := 22) (B := wr.heap.size) wr.drew #[] (Nat.le_refl _) (by simp)
              have bD : Below wr.heap.size wr (wr.drew.alloc (.cells #[] 22)) := ((Below.refl wr.heap.size wr).drew).alloc (Nat.le_refl _) _
              have HOWN := r0.1
              have HSRC : Src (wr.drew.alloc (.cells #[] 22)) (some ⟨bl, ol, none⟩) o (cells.take o) := (SR.out.take_ (by omega)).below (Or.inr ⟨_, _, rfl, hbl⟩) bD
              have OL : Hid (∀ cs : List Value, cs.length = l.length → (cs.take o ++ cs.drop (o + 1)).length = 0 + o + (p - o)) := Lib.hid (fun cs h => by rw [List.length_append, List.length_take, List.length_drop, h, HCNT.out]; omega)
              have hpo : p + 1 - (o + 1) = p - o := by omega
              go_wp2_with fail
              go_region_law (first
                | (refine step_app elBB (by rfl) _ _ (by rfl) (.slice (some ⟨wr.heap.size, 0, none⟩) 0 0) 0 [] (by rfl) HOWN (some ⟨bl, ol, none⟩) o cl (cells.take o) (by rfl) HSRC (fun u hu => ONE.out u (List.mem_of_mem_take hu)) (by simp only [maxLen]; omega) (by omega) ?_; intro v4 w4 hown hg hat; obtain ⟨A4, l4, c4, rfl⟩ := own_shape hown; have P4 := r0.app0 bD (by simp) hown hg hat; have HOWN2 := P4.1.1; have HSRC2 : Src w4 (if cl = o + 1 then some ⟨bl, ol, none⟩ else some ⟨bl, ol + (o + 1), none⟩) (p - o) (cells.drop (o + 1)) := src_cut2 SR.out hpo (by omega) hcl hbl P4.2; clear hown hg hat)
                | (refine step_app elBB (by rfl) _ _ (by rfl) (.slice A4 l4 c4) (0 + o) ([] ++ cells.take o) (by rfl) HOWN2 (if cl = o + 1 then some ⟨bl, ol, none⟩ else some ⟨bl, ol + (o + 1), none⟩) (p - o) (cl - (o + 1)) (cells.drop (o + 1)) (by rfl) HSRC2 (fun u hu => ONE.out u (List.mem_of_mem_drop hu)) (by simp only [maxLen]; omega) (by omega) ?_; intro v5 w5 hown hg hat; obtain ⟨A5, l5, c5, rfl⟩ := own_shape hown; have P5 := P4.1.app0 P4.2 (by have := P4.2.size; omega) hown hg hat; clear hown hg hat))
              all_goals
                obtain ⟨hR5, hB5⟩ := P5
                rw [show 0 + o + (p - o) = p by omega] at hR5
                have ZW : Hid (Zip (Rd RB) wr ([] ++ cells.take o ++ cells.drop (o + 1)) (without l o)) := Lib.hid ((ZP.out.take o).app (ZP.out.drop (o + 1)))
                obtain ⟨cs, hcs⟩ : ∃ cs, [] ++ cells.take o ++ cells.drop (o + 1) = cs := ⟨_, rfl⟩
                rw [hcs] at hR5 ZW
                have R5 := Lib.hid hR5
                have B5 := Lib.hid hB5
                have hwl : (without l o).length + 1 = l.length := without_len (by have := HCNT.out; omega)
                have hwn : (without l o).length = p := by have := HCNT.out; omega
                have HWN := Lib.hid hwn
                have hcsl : cs.length = p := by have := hR5.1.1; omega
                have HCSL := Lib.hid hcsl
                have rest5 := rd_zip hR5.1 hcsl (ZW.out.below (Rd_reads RB_reads) hB5)
                obtain rfl : p = l5 := by have := rest5.at_same.1; omega
                have T10 := T9.trans (hB5.mono T9.size)
                have ro5 := Rd_reads RB_reads _ _ _ _ ro.out hB5
                have hxo := RL9.out.at_same.at_ (show o < p + 1 from ho3)
                obtain ⟨bl', ol', x, u, he4, _, hx, hu, hru⟩ := hxo
                injection he4 with he4
                injection he4 with he5 he6
                subst he5 he6
                have ML := Lib.hid (missing_law HL.out (by have := HCNT.out; omega) (by have := HCNT.out; omega) hx HALL.out (show zs.length = b.length by rw [HZS.out, HQ.out]))
                have hwL : LenB b.length (without l o) := fun y hy => HL.out y (without_mem hy)
                have htw := tot_LenB hwL (by omega) (by rw [HQ.out]; exact hb4)
                have HTW := Lib.hid htw
                have hsl4 : (xorB zs (xorAll (without l o))).length = b.length := by
                  rw [xorB_len]
                  have := hwL.le
                  have := HZS.out
                  have := HQ.out
                  omega
                have hLs := hwL.snoc hsl4
                have htj := tot_LenB hLs (by simp; omega) (by rw [HQ.out]; exact hb4)
                have HTJ := Lib.hid htj
                have HU := Lib.hid (And.intro hu hru)
                have BRW := Lib.hid hB5
                clear hcs hR5 hB5 hwl hwn hcsl hx hu hru hwL htw hsl4 hLs htj P4 HOWN2 HSRC2 HOWN HSRC r0 bD hw1 hw2 ho
                generalize (if cl = o + 1 then (some ⟨bl, ol, none⟩ : Option Addr) else some ⟨bl, ol + (o + 1), none⟩) = AX at *
                go_wp2_with fail
                refine (implMiss_c _ _ (without l o) zs w5 rest5 ro5 HTW.out (by rw [HZS.out]; omega)).mono ?_
                rintro e w6 ⟨v6, rfl, F6⟩
                obtain ⟨A6, n6, c6, rfl⟩ := fresh_slice F6
                have FH6 := Lib.hid F6
                have R6 := Lib.hid (R5.out.below F6.below)
                have B6 := Lib.hid (B5.out.trans (F6.below.mono B5.out.size))
                clear F6 rest5 ro5
                go_wp2_with (at_builtin; refine wpList_app_keep elBB rfl (.tmp 140) (.tmp 144) rfl _ p cs rfl (R6.out.1.alloc _) ⟨w6.heap.size, 0, none⟩ 1 1 [.slice A6 n6 c6] rfl (Src_one _ _ _) (one_single _ rfl) (by omega) (by simp only [maxLen]; omega) (by omega) ?_; intro v7 w7 hown hg hat hkept; obtain ⟨A7, l7, c7, rfl⟩ := own_shape hown)
                have B7 : Below wr.heap.size wr w7 := NRow.app_below (w1 := w6) B6.out (by have := B6.out.size; omega) (fun b hb => R6.out.2 b hb) hg
                have rs7 := fresh_app_rd R5.out.1 FH6.out hg
                have rj := rd_zip hown (by rw [List.length_append, HCSL.out]; rfl) ((ZW.out.below (Rd_reads RB_reads) B7).app (Zip.one rs7))
                have rest7 := Lib.hid (rest_fact BRW.out R5.out ZW.out B7 hkept)
                have T11 := T9.trans (B7.mono T9.size)
                have hj3 := implJoinSh_c _ _ true w7 rj (Lib.hid ML.out.1) HTJ.out
                rw [ML.out.2.1] at hj3
                have B7H := Lib.hid B7
                clear hown hg hat hkept rs7 rj B7
                refine hj3.mono ?_
                rintro e w8' ⟨v8, rfl, F8⟩
                obtain ⟨A8, l8, c8, rfl⟩ := fresh_slice F8
                have B8' := B7H.out.trans (F8.below.mono B7H.out.size)
                have rz8 := (F8.iv (Own_good FB_good)).rd (R' := RB) (fun q => q.rb)
                have rest8 := Rd_reads (Rd_reads RB_reads) _ _ _ _ rest7.out F8.below
                have ro8 := Rd_reads RB_reads _ _ _ _ ro.out B8'
                have rb8 := Rd_reads RB_reads _ _ _ _ rb9.out B8'
                have ru8 := Rd_reads RB_reads _ _ _ _ HU.out.2 B8'
                have g8 := (B8'.cell (p := ⟨bl, ol + o, none⟩) hbl).trans HU.out.1
                have T12 := T9.trans (B8'.mono T9.size)
                have ok0 : (0 : Int) ≤ (o : Int) := by omega
                have okn : (o : Int) < (p : Int) + 1 := by omega
                have hbl8 : bl < w8'.heap.size := Nat.lt_of_lt_of_le hbl B8'.size
                have S1 : Hid (∀ W, Below w8'.heap.size w8' W → Calls Try.prog 20 #[.slice A8 l8 c8, .slice (some ⟨w8.heap.size, 0, none⟩) q q] W fun e w' => e = .returned (.bool true) ∧ Below W.heap.size W w') := Lib.hid (fun W hW => sameB_c _ _ zs W (Rd_reads RB_reads _ _ _ _ rz8 hW) (Rd_reads RB_reads _ _ _ _ ro8 hW))
                have S2 : Hid (∀ W, Below w8'.heap.size w8' W → Calls Try.prog 29 #[.slice A5 p c5, .slice A1 q c1] W fun e w' => ∃ A l c, e = .returned (.slice A l c) ∧ Below W.heap.size W w' ∧ Rd RB w' (.slice A l c) x) := Lib.hid (fun W hW => (implMiss_c _ _ (without l o) b W (Rd_reads (Rd_reads RB_reads) _ _ _ _ rest8 hW) (Rd_reads RB_reads _ _ _ _ rb8 hW) HTW.out (by rw [HQ.out]; omega)).mono (fun e w' he => by
                  obtain ⟨v', h1, h2⟩ := he
                  obtain ⟨A', l', c', rfl⟩ := fresh_slice h2
                  refine ⟨A', l', c', h1, h2.below, ?_⟩
                  have := (h2.iv (Own_good FB_good)).rd (R' := RB) (fun q => q.rb)
                  rwa [ML.out.2.2] at this))
                have S3 : Hid (∀ W A' l' c', Below w8'.heap.size w8' W → Rd RB W (.slice A' l' c') x → Calls Try.prog 20 #[.slice A' l' c', u] W fun e w' => e = .returned (.bool true) ∧ Below W.heap.size W w') := Lib.hid (fun W A' l' c' hW hx => sameB_c _ _ x W hx (Rd_reads RB_reads _ _ _ _ ru8 hW))
                have bd : Below w8'.heap.size w8' w8'.drew := (Below.refl _ _).drew
                clear F8 rz8 rest8 ro8 rb8 ru8 hj3
                go_wp2_with fail
                go_region_held3 (fun w' => w'.cell? ⟨bl, ol + o, none⟩ = some u)
                  (first | (exact g8) | (exact k1) | (exact k2) | (exact k3) | go_keep)
                  (first
                    | (go_at_call 20; ((with_reducible refine (S1.out _ bd).mono ?_); rintro e wa ⟨rfl, ba⟩; have ta := bd.trans (ba.mono bd.size); have k1 := (ta.cell (p := ⟨bl, ol + o, none⟩) hbl8).trans g8))
                    | (go_at_call 29; ((with_reducible refine (S2.out _ ta).mono ?_); rintro e wb ⟨Ab, lb, cb, rfl, bb, rb⟩; have tb := ta.trans (bb.mono ta.size); have k2 := (tb.cell (p := ⟨bl, ol + o, none⟩) hbl8).trans g8))
                    | (go_at_call 20; ((with_reducible refine (S3.out _ _ _ _ tb rb).mono ?_); rintro e wc ⟨rfl, bc⟩; have tc := tb.trans (bc.mono tb.size); have k3 := (tc.cell (p := ⟨bl, ol + o, none⟩) hbl8).trans g8)))
                all_goals
                  go_wp2
                  go_ret
                  exact ⟨rfl, T12.trans (tc.mono T12.size)⟩
    · have hsb : sbOk b seeds = false := by
        unfold sbOk
        rw [Bool.and_eq_false_iff]
        by_cases h1 : 1 ≤ seeds.length ∧ seeds.length ≤ 3
        · exact .inr (decide_eq_false (fun q => hok ⟨h1, q⟩))
        · exact .inl (decide_eq_false h1)
      have he : sb b seeds = [] := by unfold sb; rw [hsb]; rfl
      rw [he] at hnl
      obtain rfl : 0 = nl := hnl
      clear he hsb HRL r1 r2
      have hok' : ¬ (1 ≤ seeds.length ∧ seeds.length ≤ 3) ∨ 400 < b.length := by omega
      clear hok
      by_cases h1 : seeds.length < 1
      · have h1' : ¬ 1 ≤ seeds.length := by omega
        go_wp2
        all_goals
          go_ret
          exact ⟨rfl, T2⟩
      · by_cases h2 : 3 < seeds.length
        · have h3 : 1 ≤ seeds.length := by omega
          go_wp2
          all_goals
            go_ret
            exact ⟨rfl, T2⟩
        · have h3 : 1 ≤ seeds.length := by omega
          have h4 : 400 < b.length := by omega
          go_wp2
          all_goals
            go_ret
            exact ⟨rfl, T2⟩
  · have HB := Lib.hid (big_t _ x0 w y0 hl)
    clear y0 hl
    go_enter Try.func4, Try.ntmps4
    go_wp2_with fail
    refine HB.out.mono ?_
    rintro e w' ⟨rfl, rfl⟩
    go_wp2
    go_ret
    exact ⟨rfl, Below.refl _ _⟩

set_option maxRecDepth 100000 in
theorem lifted (os : Os) (started : os.Started) (H : Type) (enc : TypeId × Value → H) :
    ReturnsInHanded {} Try.checked os 4 .any (Rows.fnSharesSpec.pre6 enc Try.prog Try.f4 Rows.fnSharesRow.domain false) (Rows.fnSharesSpec.post enc Try.prog Try.f4 false true false false) := by
  refine returnsInHanded_of_change (C := Try.checked) own_ started (by kernel_rfl) Try.func4
    (ChangeSpec.witness6 (enc := enc) (C := Try.checked) false ⟨#[], #[.slice none 0 0], []⟩ 8 (by kernel_rfl) (by kernel_rfl) (by kernel_rfl) (by kernel_rfl)) ?_
  intro W base args ds gs before hval0 hW hcnd _
  have hval : ∀ (j : Nat) t v, Try.f4.params[j]? = some t → args[j]? = some v → Value.okWide Try.prog W .any base t v := hval0
  have hW' := hW
  obtain ⟨p, q, hA0, hV, rfl, hfz, hnd⟩ := hW
  have hA : DataW.TrodAll enc Try.prog W 0 (fun _ => true) true Try.f4.params.toList args.toList ds p := hA0
  rw [Try.params4] at hA hval
  obtain ⟨v0, vs0, d0, ds0, p0, q0, hargs, rfl, rfl, h0, r0⟩ := trodAll_cons hA
  obtain ⟨rfl, rfl, rfl⟩ := trodAll_nil r0
  obtain rfl : args = #[v0] := by cases args; simp_all
  obtain ⟨rfl, rfl⟩ := trodVars_none hV
  have k0 := h0
  have lt0 : ∀ x ∈ p0, x.block < W.heap.size := by obtain ⟨m, hm⟩ := k0; exact DataW.trod_lt m _ _ _ hm
  obtain ⟨x0, y0⟩ := open_val Try.underlying22 (opens_slice Try.underlying22 (by kernel_rfl) (opens_u8 Try.underlying5)) (hval 0 22 v0 rfl rfl) h0
  clear hA0 hval0
  refine (walk W v0 x0 y0).mono fun e W' ⟨he, bel⟩ => ?_
  subst he
  exact ⟨_, rfl, _, _, _, [], _, [], hW', trodAll_mk1 (shut_bool Try.underlying4 _), (trodAll_cons_mk (Below.trod laid_ (by kernel_rfl) (of_decide_eq_true (by kernel_rfl)) k0 bel lt0) trodAll_mk0), rfl, bel.frame _, fun h => by cases h⟩

theorem over : Rows.fnSharesRow.holds Try.pinned (OpenSpec.ofChange Rows.fnSharesSpec) :=
  OpenClaim.holds_of_wide 4 Try.f4 rfl rfl rfl rfl rfl rfl rfl ⟨rfl, rfl, rfl, rfl, rfl⟩ rfl rfl rfl rfl rfl (by kernel_rfl) Try.func4 (by kernel_rfl)
    (of_decide_eq_true (by kernel_rfl)) (by unfold Func.isWrapper; first | (rw [if_pos (by decide +kernel)]; kernel_rfl) | (rw [if_neg (by decide +kernel)]; exact ⟨rfl, rfl⟩))
    (fun os started H enc _ => lifted os started H enc)

theorem proved : Rows.FnSharesSaid := over
end Go.Proofs.Ytceogegjghmonaa.fnShares
