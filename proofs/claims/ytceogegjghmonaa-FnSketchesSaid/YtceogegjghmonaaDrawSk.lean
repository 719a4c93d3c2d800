/- The draws of the sketches. -/
import Derived.Test.YtceogegjghmonaaDraw4
import Derived.Test.YtceogegjghmonaaSel
import Derived.Test.YtceogegjghmonaaDraw2
import Derived.Test.YtceogegjghmonaaDrawSb
import Derived.Test.YtceogegjghmonaaShVec
import Derived.Test.YtceogegjghmonaaSkP
namespace Go.Proofs.Ytceogegjghmonaa
set_option linter.unusedVariables false
open Go.RowKit Go.ChangeShapes Go.WideShapes Go.ChangeAt

theorem Row.setI {E : TypeId} {B g n cap k : Nat} {w : World} {ys : List Int} (h : Row E B w (.slice (some ⟨g, 0, none⟩) n cap) n (ys.map fun x => Value.int .i64 x)) (r : Int) : Row E B (w.setCell ⟨g, k, none⟩ (.int .i64 r)) (.slice (some ⟨g, 0, none⟩) n cap) n ((ys.set k r).map fun x => Value.int .i64 x) := by
  rw [List.map_set]
  exact ⟨(h.1.stored k _).1, h.2⟩
theorem RowI_made (E : TypeId) (B : Nat) (w : World) (n : Nat) (hB : B ≤ w.heap.size) (hn : n ≤ 1000) : Row E B (w.alloc (.cells (madeCells #[.int .i64 0] n) E)) (.slice (some ⟨w.heap.size, 0, none⟩) n n) n ((List.replicate n (0 : Int)).map fun x => Value.int .i64 x) := by
  have h := Row_lit (E := E) (B := B) w (madeCells #[.int .i64 0] n) hB (by rw [size_madeCells]; simp [maxLen]; omega)
  rw [size_madeCells, toList_madeCells_one] at h
  simpa using h
theorem Drew.rowI {E : TypeId} {g : Nat} {w w' : World} {v : Value} {ys : List Int} (h : Drew (Own E FI) g w w' v ys) : Row E w.heap.size w' v ys.length (ys.map fun x => Value.int .i64 x) := by
  obtain ⟨wm, _, hs, F, f1, f2, f3, f4⟩ := h.open_
  obtain ⟨k1, rfl⟩ := Own_flatI.1 f1
  exact ⟨k1, fun b hb => by have := f3 b (by simpa using hb); omega⟩
set_option maxHeartbeats 1000000 in
set_option maxRecDepth 100000 in
theorem l12vec_c (V : Value) (xs : List UInt8) (g : Nat) (w0 w : World) (hx : Rd RB w0 V xs) (hn : xs.length ≤ 1048576) (h : CurT w0 V g w) :
    Calls Try.prog 156 #[.pointer (some ⟨g, 0, none⟩)] w fun e w' => ∃ v' ys, ys.length ≤ 7 ∧ e = .returned v' ∧ Drew (Own 3 FI) g w w' v' ys ∧ CurT w0 V g w' := by
  have BN : Hid (∀ (n : Int) W, 1 ≤ n → n ≤ 1000000 → CurT w0 V g W → Calls Try.prog 79 #[.pointer (some ⟨g, 0, none⟩), .int .i64 n] W (DrewN 0 (n - 1) w0 V g W)) := Lib.hid (fun n W h1 h2 hW => belowN_c V xs g n w0 W hx hn (by omega) (by omega) hW)
  have hgl := h.lt
  have hge := h.ge
  have C0 := Lib.hid h
  clear h hx
  go_enter Try.func156, Try.ntmps156
  go_wp2_with fail
  refine (BN.out 8 _ (by omega) (by omega) C0.out).mono ?_
  rintro e w1 ⟨r, hr, rfl, hc, hg⟩
  obtain ⟨n, rfl⟩ := Int.eq_ofNat_of_zero_le hr.1
  have hn7 : n ≤ 7 := by omega
  have hs1 := hg.size
  have hmk : ∀ W : World, (Instr.makeSlice 27 (.int .i64 n) (.int .i64 n)).run Try.prog W = .ok (.slice (some ⟨W.heap.size, 0, none⟩) n n) (W.alloc (.cells (madeCells #[.int .i64 0] n) 3)) := fun W => by
    simpa using run_mk elI .i64 .i64 n (by omega) (by omega) W
  have bm := below_alloc w1 (.cells (madeCells #[.int .i64 0] n) 3)
  have C1 := Lib.hid (hc.step bm)
  have G1 := Lib.hid (hg.trans (Chg.of_below (lo := g) (hi := g + 1) bm))
  have R1 := Lib.hid (RowI_made 3 w.heap.size w1 n hs1 (by omega))
  have hg1 : g < w1.heap.size := hc.lt
  clear hc hg bm hr
  go_wp2_with fail
  refine (BN.out 3 _ (by omega) (by omega) C1.out).mono ?_
  rintro e w2 ⟨r, hr, rfl, hc, hg⟩
  obtain ⟨m, rfl⟩ := Int.eq_ofNat_of_zero_le hr.1
  have HH0 : Hid (Row 3 w.heap.size w2 (.slice (some ⟨w1.heap.size, 0, none⟩) n n) n ((List.replicate n (0 : Int)).map fun x => Value.int .i64 x) ∧ CurT w0 V g w2 ∧ Chg g (g + 1) w w2) := Lib.hid ⟨R1.out.chg hg hgl, hc, G1.out.trans hg⟩
  have hm2 : m ≤ 2 := by omega
  clear hc hg hr R1 C1 G1
  go_wp2
  go_loopw [4] (fun i wr => ∃ (j : Nat) (ys : List Int), j ≤ 2 ∧ ys.length = n ∧ i = .int .i64 j ∧ Hid (Row 3 w.heap.size wr (.slice (some ⟨w1.heap.size, 0, none⟩) n n) n (ys.map fun x => Value.int .i64 x) ∧ CurT w0 V g wr ∧ Chg g (g + 1) w wr)) (fun i _ => (intOf i).toNat)
  case atStart => exact ⟨m, _, hm2, by simp, rfl, HH0⟩
  case round =>
    obtain ⟨j, ys, hj, hys, rfl, HH⟩ := hrel
    clear HH0
    have HD : Hid (Drew (Own 3 FI) g w wr (.slice (some ⟨w1.heap.size, 0, none⟩) n n) ys ∧ CurT w0 V g wr) := Lib.hid ⟨Row.drewI HH.out.1 hgl HH.out.2.2 rfl, HH.out.2.1⟩
    by_cases hj0 : 0 < j
    · by_cases hn0 : 0 < n
      · have hp1 : (0 : Int) < (j : Int) := by omega
        have hp2 : (0 : Int) < (n : Int) := by omega
        go_wp2_with fail
        refine (BN.out (n : Int) _ (by omega) (by omega) HH.out.2.1).mono ?_
        rintro e w3 ⟨r3, hr3, rfl, hc3, hg3⟩
        obtain ⟨k, rfl⟩ := Int.eq_ofNat_of_zero_le hr3.1
        have HR3 := Lib.hid (HH.out.1.chg hg3 hgl)
        have HG3 := Lib.hid (HH.out.2.2.trans hg3)
        have HC3 := Lib.hid hc3
        clear hc3 hg3
        go_wp2_with fail
        refine (BN.out 1019 _ (by omega) (by omega) HC3.out).mono ?_
        rintro e w4 ⟨r4, hr4, rfl, hc4, hg4⟩
        have HR4 := HR3.out.chg hg4 hgl
        have HG4 := HG3.out.trans hg4
        have hkn : k < n := by omega
        have c1 := HR4.1.cellAt k (by omega)
        have f1 := HR4.1.frozenAt k
        obtain ⟨z, hz⟩ : ∃ z, ys[k]? = some z := ⟨_, List.getElem?_eq_getElem (by omega)⟩
        have c2 : w4.cell? ⟨w1.heap.size, k, none⟩ = some (.int .i64 z) := c1.trans (by rw [List.getElem?_map, hz]; rfl)
        have hk0 : (0 : Int) ≤ (k : Int) := by omega
        have hkn' : (k : Int) < (n : Int) := by omega
        have HF : Hid (Row 3 w.heap.size (w4.setCell ⟨w1.heap.size, k, none⟩ (.int .i64 r4)) (.slice (some ⟨w1.heap.size, 0, none⟩) n n) n ((ys.set k r4).map fun x => Value.int .i64 x) ∧ CurT w0 V g (w4.setCell ⟨w1.heap.size, k, none⟩ (.int .i64 r4)) ∧ Chg g (g + 1) w (w4.setCell ⟨w1.heap.size, k, none⟩ (.int .i64 r4))) := Lib.hid ⟨HR4.setI r4, hc4.far (p := ⟨w1.heap.size, k, none⟩) (by show g ≠ w1.heap.size; omega) (by show w0.heap.size ≤ w1.heap.size; omega) _, HG4.low ((Below.refl w.heap.size w4).setCell (p := ⟨w1.heap.size, k, none⟩) hs1 _)⟩
        clear hc4 hg4 HR4 HG4 c1 hz HR3 HG3 HC3
        go_wp2
        go_roundw
        case rel => exact ⟨j - 1, ys.set k r4, by omega, by rw [List.length_set]; exact hys, by go_num, HF⟩
        case measure => simp [intOf]; omega
      · have hn0' : n = 0 := by omega
        subst hn0'
        go_wp2
        go_ret
        exact ⟨_, ys, by omega, rfl, HD.out.1, HD.out.2⟩
    · have hj0' : j = 0 := by omega
      subst hj0'
      go_wp2
      go_ret
      exact ⟨_, ys, by omega, rfl, HD.out.1, HD.out.2⟩
set_option maxHeartbeats 1000000 in
set_option maxRecDepth 100000 in
theorem l12any_c (V : Value) (xs : List UInt8) (g : Nat) (w0 w : World) (hx : Rd RB w0 V xs) (hn : xs.length ≤ 1048576) (h : CurT w0 V g w) :
    Calls Try.prog 157 #[.pointer (some ⟨g, 0, none⟩)] w fun e w' => ∃ v' ys, ys.length ≤ 65 ∧ e = .returned v' ∧ Drew (Own 3 FI) g w w' v' ys ∧ CurT w0 V g w' := by
  have BN : Hid (∀ (n : Int) W, 1 ≤ n → n ≤ 1000000 → CurT w0 V g W → Calls Try.prog 79 #[.pointer (some ⟨g, 0, none⟩), .int .i64 n] W (DrewN 0 (n - 1) w0 V g W)) := Lib.hid (fun n W h1 h2 hW => belowN_c V xs g n w0 W hx hn (by omega) (by omega) hW)
  have LI : Hid (∀ W, CurT w0 V g W → Calls Try.prog 94 #[.pointer (some ⟨g, 0, none⟩), .slice (some ⟨W.heap.size, 0, none⟩) 2 2] (W.alloc (.cells #[.int .i64 (-1), .int .i64 1019] 3)) (DrewN (-1) 1019 w0 V g (W.alloc (.cells #[.int .i64 (-1), .int .i64 1019] 3)))) := Lib.hid (fun W hW => by
    have r := rd_rowI (Row_lit (E := 3) (B := W.heap.size) W #[.int .i64 (-1), .int .i64 1019] (Nat.le_refl _) (by simp [maxLen])).1 (xs := [-1, 1019]) rfl
    have hgw := hW.lt
    exact lint_c V xs g [-1, 1019] (-1) 1019 w0 _ W.heap.size 0 2 2 hx hn (hW.step (below_alloc W _)) r (by omega) (by omega) (by omega) (by simp))
  have VE := Lib.hid (l12vec_c V xs g w0 w hx hn h)
  have hgl := h.lt
  have hge := h.ge
  clear h hx
  go_enter Try.func157, Try.ntmps157
  go_wp2_with fail
  refine VE.out.mono ?_
  rintro e w1 ⟨v1, ys, hys, rfl, D1, hc1⟩
  obtain ⟨A1, l1, c1, rfl⟩ := own_shape D1.rowI.1
  have R1 := Lib.hid D1.rowI
  have G1 := Lib.hid D1.chg
  have C1 := Lib.hid hc1
  clear D1 hc1 VE
  go_wp2_with fail
  refine (BN.out 8 _ (by omega) (by omega) C1.out).mono ?_
  rintro e w2 ⟨r, hr, rfl, hc, hg⟩
  have R2 := Lib.hid (R1.out.chg hg hgl)
  have G2 := Lib.hid (G1.out.trans hg)
  have C2 := Lib.hid hc
  clear hc hg R1 G1 C1
  by_cases h0 : r = 0
  · subst h0
    have bl := below_alloc w2 (.cells #[.int .i64 (-1), .int .i64 1019] 3)
    have R2a := Lib.hid (R2.out.below bl)
    have G2a := Lib.hid (G2.out.trans (Chg.of_below (lo := g) (hi := g + 1) bl))
    clear bl
    go_wp2_with fail
    refine (LI.out _ C2.out).mono ?_
    rintro e w3 ⟨z, hz, rfl, hc, hg⟩
    have R3 := Lib.hid (R2a.out.chg hg hgl)
    have G3 := Lib.hid (G2a.out.trans hg)
    have C3 := Lib.hid hc
    clear hc hg R2a G2a
    go_wp2_with (at_builtin; refine wpList_app elI rfl (.tmp 10) (.tmp 14) rfl _ ys.length _ rfl (R3.out.1.alloc _) (some ⟨w3.heap.size, 0, none⟩) 1 1 [.int .i64 z] rfl (Src_one _ _ _) (one_single _ rfl) (by simp only [maxLen]; omega) (by omega) ?_; intro v4 w4 hown2 hg2 hat2; have r4 := R3.out.app_ (o := .cells #[.int .i64 z] 3) (by have := G3.out.size; omega) hown2 hat2; have hv := R3.out.2; have c4 := C3.out.grow hg2 (fun b hb => by have := hv b hb; omega); have g4 := G3.out.grow hg2 hv; rw [show [Value.int .i64 z] = [z].map (fun x => Value.int .i64 x) from rfl, ← List.map_append] at r4; have D4 : Hid (Drew (Own 3 FI) g w w4 v4 (ys ++ [z])) := Lib.hid (Row.drewI (n := ys.length + 1) r4 hgl g4 rfl); have C4 := Lib.hid c4; clear r4 c4 g4 hown2 hg2 hat2 hv)
    go_ret
    exact ⟨_, ys ++ [z], by simp; omega, rfl, D4.out, C4.out⟩
  · by_cases h1 : r = 1
    · subst h1
      go_wp2_with fail
      refine (BN.out 2 _ (by omega) (by omega) C2.out).mono ?_
      rintro e w3 ⟨m, hm, rfl, hc, hg⟩
      obtain ⟨m, rfl⟩ := Int.eq_ofNat_of_zero_le hm.1
      have hmk : ∀ W : World, (Instr.makeSlice 27 (.int .i64 (64 + (m : Int))) (.int .i64 (64 + (m : Int)))).run Try.prog W = .ok (.slice (some ⟨W.heap.size, 0, none⟩) (64 + m) (64 + m)) (W.alloc (.cells (madeCells #[.int .i64 0] (64 + m)) 3)) := fun W => by
        have := run_mk elI .i64 .i64 (64 + m) (by omega) (by omega) W
        simpa using this
      have bm := below_alloc w3 (.cells (madeCells #[.int .i64 0] (64 + m)) 3)
      have hs3 : w.heap.size ≤ w3.heap.size := (G2.out.trans hg).size
      have D4 : Hid (Drew (Own 3 FI) g w (w3.alloc (.cells (madeCells #[.int .i64 0] (64 + m)) 3)) (.slice (some ⟨w3.heap.size, 0, none⟩) (64 + m) (64 + m)) (List.replicate (64 + m) (0 : Int))) := Lib.hid (Row.drewI (n := 64 + m) (RowI_made 3 w.heap.size w3 (64 + m) hs3 (by omega)) hgl ((G2.out.trans hg).trans (Chg.of_below (lo := g) (hi := g + 1) bm)) rfl)
      have C4 := Lib.hid (hc.step bm)
      clear hc hg bm
      go_wp2_with fail
      go_ret
      exact ⟨_, _, by simp; omega, rfl, D4.out, C4.out⟩
    · have D4 := Lib.hid (Row.drewI R2.out hgl G2.out rfl)
      go_wp2
      go_ret
      exact ⟨_, ys, by omega, rfl, D4.out, C2.out⟩
theorem shVec_ok (v seeds : List Int) : ∀ x ∈ shVec v seeds, skOk x = true := fun x hx => by
  by_cases h : vecOk v seeds = true
  · unfold shVec at hx
    rw [if_pos h] at hx
    simp only [List.mem_map, List.mem_range] at hx
    obtain ⟨k, hk, rfl⟩ := hx
    exact shRow_ok v seeds _ k (of_decide_eq_true h).1 hk
  · rw [shVec_no (by simpa using h)] at hx
    simp at hx
set_option maxHeartbeats 1000000 in
set_option maxRecDepth 100000 in
theorem l12sh_c (v : Value) (xs : List UInt8) (w : World) (hx : Rd RB w v xs) (hn : xs.length ≤ 1048576) :
    Calls Try.prog 129 #[v] w fun e w' => ∃ v' ls s, e = .returned (.tuple #[v', .int .i64 s]) ∧ Rd (Rd RI) w' v' ls ∧ Below w.heap.size w w' := by
  have NE := Lib.hid (new_c v xs w hx hn)
  have VE : Hid (∀ W, CurT w v w.heap.size W → Calls Try.prog 156 #[.pointer (some ⟨w.heap.size, 0, none⟩)] W fun e w' => ∃ v' ys, ys.length ≤ 7 ∧ e = .returned v' ∧ Drew (Own 3 FI) w.heap.size W w' v' ys ∧ CurT w v w.heap.size w') := Lib.hid (fun W hW => l12vec_c v xs w.heap.size w W hx hn hW)
  have AN : Hid (∀ W, CurT w v w.heap.size W → Calls Try.prog 157 #[.pointer (some ⟨w.heap.size, 0, none⟩)] W fun e w' => ∃ v' ys, ys.length ≤ 65 ∧ e = .returned v' ∧ Drew (Own 3 FI) w.heap.size W w' v' ys ∧ CurT w v w.heap.size w') := Lib.hid (fun W hW => l12any_c v xs w.heap.size w W hx hn hW)
  have SS : Hid (∀ W, CurT w v w.heap.size W → Calls Try.prog 80 #[.pointer (some ⟨w.heap.size, 0, none⟩)] W fun e w' => ∃ v' ys, ys.length ≤ 4 ∧ e = .returned v' ∧ Drew (Own 3 FI) w.heap.size W w' v' ys ∧ CurT w v w.heap.size w') := Lib.hid (fun W hW => seeds_c v xs w.heap.size w W hx hn hW)
  have SE : Hid (∀ W, CurT w v w.heap.size W → Calls Try.prog 136 #[.pointer (some ⟨w.heap.size, 0, none⟩)] W (DrewN (-1) 2147483647 w v w.heap.size W)) := Lib.hid (fun W hW => seed_c v xs w.heap.size w W hx hn hW)
  have BN : Hid (∀ W, CurT w v w.heap.size W → Calls Try.prog 79 #[.pointer (some ⟨w.heap.size, 0, none⟩), .int .i64 8] W (DrewN 0 7 w v w.heap.size W)) := Lib.hid (fun W hW => belowN_c v xs w.heap.size 8 w W hx hn (by omega) (by omega) hW)
  have HX := Lib.hid hx
  clear hx
  go_enter Try.func129, Try.ntmps129
  go_wp2_with fail
  refine NE.out.mono ?_
  rintro e w1 ⟨rfl, hc⟩
  have C1 := Lib.hid hc
  have hl1 := hc.lt
  clear hc NE
  go_wp2_with fail
  refine (VE.out _ C1.out).mono ?_
  rintro e w2 ⟨va, ya, hya, rfl, D2, hc⟩
  have DA := Lib.hid D2
  have hl2 := hc.lt
  have hs2 := D2.chg.size
  have C2 := Lib.hid hc
  clear hc D2 C1
  go_wp2_with fail
  refine (SS.out _ C2.out).mono ?_
  rintro e w3 ⟨vb, yb, hyb, rfl, D3, hc⟩
  have ra := DA.out.rdI hl1 D3.chg
  have rb := D3.rdI hl2 (Chg.refl _ _ w3)
  have hl3 := hc.lt
  have C3 := Lib.hid hc
  have SV := Lib.hid (specShVec_c _ _ ya yb w3 ra rb (by omega) (by omega))
  clear hc D3 C2 ra rb DA
  go_wp2_with fail
  refine SV.out.mono ?_
  rintro e w4 ⟨v4, rfl, F4⟩
  have NR4 : Hid (NRow 27 (Own 3 FI) w3.heap.size w4 v4 (shVec ya yb).length (shVec ya yb) []) := Lib.hid F4.nrow
  have C4 := Lib.hid (C3.out.step F4.below)
  have hs4 := F4.below.size
  have HOK := Lib.hid (shVec_ok ya yb)
  have HLN := Lib.hid (shVec_len ya yb)
  obtain ⟨A4, l4, c4, rfl⟩ := fresh_slice F4
  generalize shVec ya yb = ls at *
  clear F4 SV C3
  go_wp2_with fail
  refine (BN.out _ C4.out).mono ?_
  rintro e w5 ⟨r, hr, rfl, hc, hg⟩
  have NR5 := Lib.hid (NR4.out.mid (Own_good FI_good) hg hl3)
  have hs5 := hg.size
  have C5 := Lib.hid hc
  clear hc hg NR4 C4
  have FIN : Hid (∀ W v' ls', NRow 27 (Own 3 FI) w3.heap.size W v' ls'.length ls' [] → CurT w v w.heap.size W → Calls Try.prog 136 #[.pointer (some ⟨w.heap.size, 0, none⟩)] W fun e w' => ∃ s, e = .returned (.int .i64 s) ∧ Rd (Rd RI) w' v' ls' ∧ Below w.heap.size w w') := Lib.hid (fun W v' ls' hN hC => (SE.out _ hC).mono (by
    rintro e w' ⟨s, hs, rfl, hc, hg⟩
    exact ⟨s, rfl, (hN.mid (Own_good FI_good) hg hl3).rd (fun q => q.rd (fun k => k.ri)), hc.below⟩))
  by_cases h0 : r = 0
  · subst h0
    go_wp2_with fail
    refine (AN.out _ C5.out).mono ?_
    rintro e w6 ⟨v6, y6, hy6, rfl, D6, hc⟩
    have C6 := Lib.hid hc
    obtain ⟨wm, hm6, hms, FU⟩ := D6.open_
    obtain ⟨cells, F, k1, k2, k3, k4⟩ := (NR5.out.mid (Own_good FI_good) hm6 hl3).open_
    obtain ⟨A6, l6, c6, rfl⟩ := fresh_slice FU
    have HOWN : Hid ((w6.alloc (.cells #[.slice A6 l6 c6] 27)).ownsRow 0 27 1 (.slice A4 l4 c4) ls.length cells) := Lib.hid (ownsRow_at k1 (fun b hb => (Below.heap_alloc w6 _ b (by have := (k1.lt b (by simpa using hb)).2; have := FU.below.size; omega)).trans (FU.below.block b (k1.lt b (by simpa using hb)).2)))
    have KK := Lib.hid (And.intro k1 (And.intro k2 (And.intro k3 k4)))
    have FH := Lib.hid FU
    have hl4 := HLN.out
    clear D6 hc k1 k2 k3 k4 FU
    go_wp2_with (at_builtin; refine wpList_app elII rfl (.tmp 17) (.tmp 20) rfl (.slice A4 l4 c4) ls.length cells rfl HOWN.out (some ⟨w6.heap.size, 0, none⟩) 1 1 [.slice A6 l6 c6] rfl (Src_one _ _ _) (one_single _ rfl) (by simp only [maxLen]; omega) (by omega) ?_; intro v7 w7 hown2 hg2 hat2; have NR7 := Lib.hid (NRow.app (Own_good FI_good) KK.out.1 KK.out.2.1 KK.out.2.2.1 KK.out.2.2.2 FH.out (by omega) hown2 hg2 hat2); have C7 := Lib.hid (C6.out.grow hg2 (fun b hb => by have := KK.out.2.2.2 b (List.mem_append_left _ (by rw [hb]; simp)); omega)); clear hown2 hg2 hat2)
    refine (FIN.out _ v7 (ls ++ [y6]) (by rw [List.length_append]; exact NR7.out) C7.out).mono ?_
    rintro e w8 ⟨s, rfl, hrd, hb⟩
    have HR := Lib.hid (And.intro hrd hb)
    clear hrd hb
    go_wp2
    refine bodyPost_ret (v := .tuple #[v7, .int .i64 s]) (by simp [results, Try.results129, go_sem]) rfl ⟨_, _, _, rfl, HR.out.1, HR.out.2⟩
  · by_cases h1 : r = 1
    · subst h1
      by_cases hl0 : ls.length = 0
      · obtain rfl : l4 = 0 := by
          rcases NR5.out.form with ⟨h, _⟩ | ⟨_, _, h, _⟩
          · injection h with e1 e2 e3
          · injection h with e1 e2 e3; omega
        go_wp2_with fail
        refine (FIN.out _ _ ls NR5.out C5.out).mono ?_
        rintro e w8 ⟨s, rfl, hrd, hb⟩
        have HR := Lib.hid (And.intro hrd hb)
        clear hrd hb
        go_wp2
        refine bodyPost_ret (v := .tuple #[.slice A4 0 c4, .int .i64 s]) (by simp [results, Try.results129, go_sem]) rfl ⟨_, _, _, rfl, HR.out.1, HR.out.2⟩
      · obtain ⟨gl, rfl, hll⟩ : ∃ gl, A4 = some ⟨gl, 0, none⟩ ∧ l4 = ls.length := by
          rcases NR5.out.form with ⟨_, h⟩ | ⟨gl, cap, h, _⟩
          · exact absurd h hl0
          · injection h with e1 e2 e3; exact ⟨gl, e1, e2⟩
        subst hll
        have hlp : (0 : Int) < (ls.length : Int) := by omega
        obtain ⟨x, hx0⟩ : ∃ x, ls[0]? = some x := ⟨_, List.getElem?_eq_getElem (by omega)⟩
        obtain ⟨u, q1, q2, q3, q4, q5, q6, _, q8⟩ := (NR5.out.nrq (Q := fun b => w3.heap.size ≤ b) (Own_good FI_good) (fun b hb _ => hb)).rowAtI hx0
        by_cases hxl : x.length = 0
        · obtain ⟨gk, ck, rfl⟩ : ∃ gk ck, u = .slice gk 0 ck := by
            obtain ⟨gk, lk, ck, rfl⟩ := own_shape q4
            refine ⟨gk, ck, ?_⟩
            rcases q4.2 with ⟨h, _⟩ | ⟨_, _, _, h, _⟩
            · injection h with e1 e2 e3; rw [e2]
            · injection h with e1 e2 e3; rw [e2, hxl]
          clear q4 q8
          go_wp2_with fail
          refine (FIN.out _ _ ls NR5.out C5.out).mono ?_
          rintro e w8 ⟨s, rfl, hrd, hb⟩
          have HR := Lib.hid (And.intro hrd hb)
          clear hrd hb
          go_wp2
          refine bodyPost_ret (v := .tuple #[.slice (some ⟨gl, 0, none⟩) ls.length c4, .int .i64 s]) (by simp [results, Try.results129, go_sem]) rfl ⟨_, _, _, rfl, HR.out.1, HR.out.2⟩
        · obtain ⟨gk, ck, rfl⟩ : ∃ gk ck, u = .slice (some ⟨gk, 0, none⟩) x.length ck := by
            rcases q4.2 with ⟨_, h0⟩ | ⟨g', cc, cur, hh, _⟩
            · omega
            · exact ⟨g', cc, hh⟩
          have hxp : (0 : Int) < (x.length : Int) := by omega
          obtain ⟨z, hz⟩ : ∃ z, x[0]? = some z := ⟨_, List.getElem?_eq_getElem (by omega)⟩
          have hzb := skOk_get (HOK.out x (List.mem_of_getElem? hx0)) hz
          have hgk := q5 gk rfl
          have cst : w5.cell? ⟨gk, 0, none⟩ = some (.int .i64 z) := (q4.cellAt 0 (by omega)).trans (by rw [List.getElem?_map, hz]; rfl)
          have cstd : w5.drew.cell? ⟨gk, 0, none⟩ = some (.int .i64 z) := cst
          have fst_ : w5.drew.frozen? ⟨gk, 0, none⟩ = false := q4.frozenAt 0
          have q1d : w5.drew.cell? ⟨gl, 0, none⟩ = some (.slice (some ⟨gk, 0, none⟩) x.length ck) := q1
          have hw1 : IntKind.i64.wrap (z + 1) = z + 1 := IntWalk.i64_in _ (by omega)
          have hw2 : (z + 1).tmod 1019 = (z + 1) % 1019 := Int.tmod_eq_emod_of_nonneg (by omega)
          have hw3 : IntKind.i64.wrap ((z + 1) % 1019) = (z + 1) % 1019 := IntWalk.i64_in _ (by omega)
          have N6 := q8 gk 0 ((z + 1) % 1019) rfl
          have NR6 : Hid (NRow 27 (Own 3 FI) w3.heap.size (w5.setCell ⟨gk, 0, none⟩ (.int .i64 ((z + 1) % 1019))).drew (.slice (some ⟨gl, 0, none⟩) ls.length c4) (ls.set 0 (x.set 0 ((z + 1) % 1019))).length (ls.set 0 (x.set 0 ((z + 1) % 1019))) []) := Lib.hid (by rw [List.length_set]; exact (N6.nrow (fun b hb => hb)).drew_ (Own_good FI_good))
          have C6 : Hid (CurT w v w.heap.size (w5.setCell ⟨gk, 0, none⟩ (.int .i64 ((z + 1) % 1019))).drew) := Lib.hid (C5.out.far (p := ⟨gk, 0, none⟩) (by show w.heap.size ≠ gk; have := hgk.1; omega) (by show w.heap.size ≤ gk; have := hgk.1; omega) _).drew
          have hne : gl ≠ gk := fun e => hgk.2 e.symm
          clear q4 q8 N6 hz
          go_wp2_with fail
          go_region
          all_goals
            go_wp2_with fail
            refine (FIN.out _ _ (ls.set 0 (x.set 0 ((z + 1) % 1019))) NR6.out C6.out).mono ?_
            rintro e w8 ⟨s, rfl, hrd, hb⟩
            have HR := Lib.hid (And.intro hrd hb)
            clear hrd hb
            go_wp2
            refine bodyPost_ret (v := .tuple #[.slice (some ⟨gl, 0, none⟩) ls.length c4, .int .i64 s]) (by simp [results, Try.results129, go_sem]) rfl ⟨_, _, _, rfl, HR.out.1, HR.out.2⟩
    · go_wp2_with fail
      refine (FIN.out _ _ ls NR5.out C5.out).mono ?_
      rintro e w8 ⟨s, rfl, hrd, hb⟩
      have HR := Lib.hid (And.intro hrd hb)
      clear hrd hb
      go_wp2
      refine bodyPost_ret (v := .tuple #[.slice A4 l4 c4, .int .i64 s]) (by simp [results, Try.results129, go_sem]) rfl ⟨_, _, _, rfl, HR.out.1, HR.out.2⟩
theorem drawCs_c (v : Value) (xs : List UInt8) (w : World) (hx : Rd RB w v xs) (hn : xs.length ≤ 1048576) :
    Calls Try.prog 73 #[v] w fun e w' => ∃ v' ls s, e = .returned (.tuple #[v', .int .i64 s]) ∧ Rd (Rd RI) w' v' ls ∧ Below w.heap.size w w' := by
  have SH := Lib.hid (l12sh_c v xs w hx hn)
  clear hx
  go_enter Try.func73, Try.ntmps73
  go_wp2_with fail
  refine SH.out.mono ?_
  rintro e w1 ⟨v1, ls, s, rfl, hrd, hb⟩
  have HR := Lib.hid (And.intro hrd hb)
  clear hrd hb SH
  go_wp2
  refine bodyPost_ret (v := .tuple #[v1, .int .i64 s]) (by simp [results, Try.results73, go_sem]) rfl ⟨_, _, _, rfl, HR.out.1, HR.out.2⟩
end Go.Proofs.Ytceogegjghmonaa
