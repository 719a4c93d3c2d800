/- What the reference's DrawSealCell gives. -/
import Derived.Test.YtokhogdocaeelaaDrawSc
namespace Go.Proofs.Ytokhogdocaeelaa
set_option linter.unusedVariables false
open Go.RowKit

set_option maxHeartbeats 1000000 in
set_option maxRecDepth 100000 in
theorem any_c (V : Value) (xs : List UInt8) (g : Nat) (w0 w : World) (hx : Rd RB w0 V xs) (hn : xs.length ≤ 1048576) (h : CurT w0 V g w) :
    Calls Try.prog 103 #[.pointer (some ⟨g, 0, none⟩)] w fun e w' => ∃ m A l c body, e = .returned (.agg #[.int .i64 m, .slice A l c]) ∧ (-1 ≤ m ∧ m ≤ 4) ∧ body.length ≤ 15 ∧ Drew (Own 5 FB) g w w' (.slice A l c) body ∧ CurT w0 V g w' := by
  have hgl := h.lt
  have hge := h.ge
  have cw := Lib.hid (Chg.of_below (lo := g) (hi := g + 1) (below_alloc w (.cells #[.int .i64 0, .slice none 0 0] 58)))
  have C0 := h.step (below_alloc w (.cells #[.int .i64 0, .slice none 0 0] 58))
  have B0 := Lib.hid (Box.new w 58 #[.int .i64 0, .slice none 0 0])
  have PL := Lib.hid (plain_c V xs g w0 _ hx hn C0)
  have BN : Hid (∀ (n : Int) W, 1 ≤ n → n ≤ 1000000 → CurT w0 V g W → Calls Try.prog 61 #[.pointer (some ⟨g, 0, none⟩), .int .i64 n] W (DrewN 0 (n - 1) w0 V g W)) := Lib.hid (fun n W h1 h2 hW => belowN_c V xs g n w0 W hx hn h1 h2 hW)
  have LI : Hid (∀ W, g < W.heap.size → CurT w0 V g W → Calls Try.prog 60 #[.pointer (some ⟨g, 0, none⟩), .slice (some ⟨W.heap.size, 0, none⟩) 2 2] (W.alloc (.cells #[.int .i64 (-1), .int .i64 4] 3)) fun e w' => ∃ r : Int, r ∈ ([-1, 4] : List Int) ∧ e = .returned (.int .i64 r) ∧ CurT w0 V g w' ∧ Chg g (g + 1) (W.alloc (.cells #[.int .i64 (-1), .int .i64 4] 3)) w') := Lib.hid (fun W hg hW => by
    have r := rd_rowI (Row_lit (E := 3) (B := W.heap.size) W #[.int .i64 (-1), .int .i64 4] (Nat.le_refl _) (by simp [maxLen])).1 (xs := [-1, 4]) rfl
    exact lintM_c V xs g [-1, 4] w0 _ W.heap.size 0 2 2 hx hn (hW.step (below_alloc W _)) r (by omega) (by omega) (by omega))
  have END : Hid (∀ (W : World) (m' : Int) A' l' c' (body' : List UInt8) F, Own 5 FB W (.slice A' l' c') body' F → F.Nodup → (∀ b, b ∈ F → w.heap.size + 1 ≤ b) → CurT w0 V g W → Chg g (g + 1) w W → Drew (Own 5 FB) g w ((W.setCell ⟨w.heap.size, 0, none⟩ (.int .i64 m')).setCell ⟨w.heap.size, 1, none⟩ (.slice A' l' c')) (.slice A' l' c') body' ∧ CurT w0 V g ((W.setCell ⟨w.heap.size, 0, none⟩ (.int .i64 m')).setCell ⟨w.heap.size, 1, none⟩ (.slice A' l' c'))) := Lib.hid (fun W m' A' l' c' body' F hO hN hF hC hG => by
    have ch : Chg w.heap.size (w.heap.size + 1) W ((W.setCell ⟨w.heap.size, 0, none⟩ (.int .i64 m')).setCell ⟨w.heap.size, 1, none⟩ (.slice A' l' c')) := ((Chg.refl _ _ W).setCell (p := ⟨w.heap.size, 0, none⟩) (Nat.le_refl _) (Nat.lt_succ_self _) (.int .i64 m')).setCell (p := ⟨w.heap.size, 1, none⟩) (Nat.le_refl _) (Nat.lt_succ_self _) (.slice A' l' c')
    exact ⟨Drew_of hgl (hG.low (((Below.refl w.heap.size W).setCell (p := ⟨w.heap.size, 0, none⟩) (Nat.le_refl _) _).setCell (p := ⟨w.heap.size, 1, none⟩) (Nat.le_refl _) _)) ((Own_good FB_good).stab hO (fun b hb => ch.block b ((Own_good FB_good).lt hO b hb) (fun q => by have := hF b hb; omega))) hN (fun b hb => by have := hF b hb; omega), (hC.far (p := ⟨w.heap.size, 0, none⟩) (by show g ≠ w.heap.size; omega) (by show w0.heap.size ≤ w.heap.size; omega) _).far (p := ⟨w.heap.size, 1, none⟩) (by show g ≠ w.heap.size; omega) (by show w0.heap.size ≤ w.heap.size; omega) _⟩)
  clear h hx C0
  go_enter Try.func103, Try.ntmps103
  go_wp2_with fail
  refine PL.out.mono ?_
  rintro e w1 ⟨m, A, l, c, body, rfl, hm, hb, D, hc⟩
  have hs1 := D.chg.size
  simp only [World.size_alloc] at hs1
  have C2 := Lib.hid (hc.step (below_alloc w1 (.cells #[.int .i64 m, .slice A l c] 58)))
  have G2 := Lib.hid ((cw.out.trans D.chg).trans (Chg.of_below (below_alloc w1 (.cells #[.int .i64 m, .slice A l c] 58))))
  have Bp2 := Lib.hid (Box.new w1 58 #[.int .i64 m, .slice A l c])
  have Br2 := Lib.hid ((B0.out.chg D.chg (by omega)).alloc (.cells #[.int .i64 m, .slice A l c] 58))
  have OW : Hid (∀ W : World, Chg g (g + 1) (w1.alloc (.cells #[.int .i64 m, .slice A l c] 58)) W → ∃ F, Own 5 FB W (.slice A l c) body F ∧ F.Nodup ∧ (∀ b, b ∈ F → w.heap.size + 1 ≤ b ∧ b < w1.heap.size)) := Lib.hid (fun W hW => by
    obtain ⟨wm, hm, F, f1, f2, f3, f4⟩ := D
    have hms := hm.2
    simp only [World.size_alloc] at hms
    refine ⟨F, (Own_good FB_good).stab f1 (fun b hb => ?_), f2, fun b hb => ⟨by have := f3 b hb; omega, (Own_good FB_good).lt f1 b hb⟩⟩
    have h1 := (Own_good FB_good).lt f1 b hb
    have h2 := f3 b hb
    rw [hW.block b (by simp; omega) (fun q => by omega), Below.heap_alloc w1 _ b h1])
  have hne1 : w1.heap.size ≠ g := by omega
  have hneR : w.heap.size ≠ g := by omega
  have hnep : w.heap.size ≠ w1.heap.size := by omega
  have HM := Lib.hid hm
  have HBL := Lib.hid hb
  clear hc D PL cw B0 hm hb
  go_wp2_with fail
  refine (BN.out 8 _ (by omega) (by omega) C2.out).mono ?_
  rintro e w3 ⟨r, hr, rfl, hc, hg⟩
  have C3 := Lib.hid hc
  have G3 := Lib.hid (G2.out.trans hg)
  have HG3 := Lib.hid hg
  have Bp3 := Lib.hid (Bp2.out.chg hg hne1)
  have Br3 := Lib.hid (Br2.out.chg hg hneR)
  have hs3 := hg.size
  simp only [World.size_alloc] at hs3
  clear hc hg Bp2 Br2 G2 C2
  by_cases h0 : r = 0
  · subst h0
    go_wp2_with fail
    refine (LI.out w3 (by omega) C3.out).mono ?_
    rintro e w4 ⟨m', hm', rfl, hc, hg⟩
    have ch4 := (Chg.of_below (lo := g) (hi := g + 1) (below_alloc w3 (.cells #[.int .i64 (-1), .int .i64 4] 3))).trans hg
    have Bp4 := Bp3.out.chg ch4 hne1
    have Br4 := Br3.out.chg ch4 hneR
    have Br5 := Br4.far (p := ⟨w1.heap.size, 0, none⟩) hnep (.int .i64 m')
    have Bp5 := Bp4.set_ 0 (.int .i64 m')
    have a0 := Bp4.cell 0
    have b0 := Bp4.frozen 0
    have a1 := Bp5.cell 0
    have a2 := Bp5.cell 1
    have x0 := Br5.cell 0
    have x1 := Br5.cell 1
    have y0 := Br5.frozen 0
    have y1 := Br5.frozen 1
    have x2 := (Br5.set_ 0 (.int .i64 m')).cell 1
    have y2 := (Br5.set_ 0 (.int .i64 m')).frozen 1
    have B6 := (Br5.set_ 0 (.int .i64 m')).set_ 1 (.slice A l c)
    have e0 := B6.cell 0
    have e1 := B6.cell 1
    have bel : Below w.heap.size w4 (w4.setCell ⟨w1.heap.size, 0, none⟩ (.int .i64 m')) := (Below.refl w.heap.size w4).setCell (p := ⟨w1.heap.size, 0, none⟩) (by show w.heap.size ≤ w1.heap.size; omega) _
    obtain ⟨F, f1, f2, f3⟩ := OW.out w4 (HG3.out.trans ch4)
    have FIN := Lib.hid (END.out (w4.setCell ⟨w1.heap.size, 0, none⟩ (.int .i64 m')) m' A l c body F ((Own_good FB_good).stab f1 (fun b hb => Below.heap_setCell _ _ _ _ (by have := (f3 b hb).2; show b ≠ w1.heap.size; omega))) f2 (fun b hb => (f3 b hb).1) (hc.far (p := ⟨w1.heap.size, 0, none⟩) (by show g ≠ w1.heap.size; omega) (by show w0.heap.size ≤ w1.heap.size; omega) _) ((G3.out.trans ch4).low bel))
    have HM2 := Lib.hid hm'
    clear hc hg ch4 Bp4 Br4 Br5 Bp5 B6 bel f1 f2 f3 hm'
    go_wp2
    refine bodyPost_ret (v := .agg #[.int .i64 m', .slice A l c]) (by simp [results, Try.results103, go_sem, e0, e1]) rfl ?_
    exact ⟨m', A, l, c, body, rfl, by have := HM2.out; simp at this; omega, by have := HBL.out; omega, FIN.out.1, FIN.out.2⟩
  · by_cases h1 : r = 1
    · subst h1
      have hw : ∀ q : Int, (0 ≤ q ∧ q ≤ 2 - 1) → IntKind.i64.wrap (14 + q) = 14 + q := fun q hq => IntWalk.i64_in _ (by omega)
      go_wp2_with fail
      refine (BN.out 2 _ (by omega) (by omega) C3.out).mono ?_
      rintro e w4 ⟨q, hq, rfl, hc, hg⟩
      obtain ⟨j, rfl⟩ := Int.eq_ofNat_of_zero_le hq.1
      have Bp4 := Bp3.out.chg hg hne1
      have Br4 := Br3.out.chg hg hneR
      have hmk : ∀ W : World, (Instr.makeSlice 22 (.int .i64 (14 + (j : Int))) (.int .i64 (14 + (j : Int)))).run Try.prog W = .ok (.slice (some ⟨W.heap.size, 0, none⟩) (14 + j) (14 + j)) (W.alloc (.cells (madeCells #[.int .u8 0] (14 + j)) 5)) := fun W => by
        have := run_mk elB .i64 .i64 (14 + j) (by omega) (by omega) W
        simpa using this
      have a0 := Bp4.cell 1
      have b0 := Bp4.frozen 1
      have a0' : (w4.alloc (.cells (madeCells #[.int .u8 0] (14 + j)) 5)).cell? ⟨w1.heap.size, 1, none⟩ = some (.slice A l c) := (Bp4.alloc _).cell 1
      have b0' := (Bp4.alloc (.cells (madeCells #[.int .u8 0] (14 + j)) 5)).frozen 1
      have Br6 := (Br4.far (p := ⟨w1.heap.size, 1, none⟩) hnep (.slice (some ⟨w4.heap.size, 0, none⟩) (14 + j) (14 + j))).alloc (.cells (madeCells #[.int .u8 0] (14 + j)) 5)
      have Bp6 := (Bp4.set_ 1 (.slice (some ⟨w4.heap.size, 0, none⟩) (14 + j) (14 + j))).alloc (.cells (madeCells #[.int .u8 0] (14 + j)) 5)
      have a1 := Bp6.cell 0
      have a2 := Bp6.cell 1
      have x0 := Br6.cell 0
      have x1 := Br6.cell 1
      have y0 := Br6.frozen 0
      have y1 := Br6.frozen 1
      have x2 := (Br6.set_ 0 (.int .i64 m)).cell 1
      have y2 := (Br6.set_ 0 (.int .i64 m)).frozen 1
      have B7 := (Br6.set_ 0 (.int .i64 m)).set_ 1 (.slice (some ⟨w4.heap.size, 0, none⟩) (14 + j) (14 + j))
      have e0 := B7.cell 0
      have e1 := B7.cell 1
      have hs4 := hg.size
      have hsz : (w4.setCell ⟨w1.heap.size, 1, none⟩ (.slice (some ⟨w4.heap.size, 0, none⟩) (14 + j) (14 + j))).heap.size = w4.heap.size := by simp
      have FR := fresh_made (w4.setCell ⟨w1.heap.size, 1, none⟩ (.slice (some ⟨w4.heap.size, 0, none⟩) (14 + j) (14 + j))) (14 + j) (by simp only [maxLen]; omega)
      rw [hsz] at FR
      obtain ⟨F, f1, f2, f3, f4⟩ := FR
      rw [hsz] at f3
      have hlt4 : w1.heap.size < w4.heap.size := by omega
      have bel : Below w.heap.size w4 ((w4.setCell ⟨w1.heap.size, 1, none⟩ (.slice (some ⟨w4.heap.size, 0, none⟩) (14 + j) (14 + j))).alloc (.cells (madeCells #[.int .u8 0] (14 + j)) 5)) := ((Below.refl w.heap.size w4).setCell (p := ⟨w1.heap.size, 1, none⟩) (by show w.heap.size ≤ w1.heap.size; omega) _).alloc (by simp; omega) _
      have FIN := Lib.hid (END.out ((w4.setCell ⟨w1.heap.size, 1, none⟩ (.slice (some ⟨w4.heap.size, 0, none⟩) (14 + j) (14 + j))).alloc (.cells (madeCells #[.int .u8 0] (14 + j)) 5)) m _ _ _ _ F f1 f2 (fun b hb => by have := f3 b hb; omega) ((hc.far (p := ⟨w1.heap.size, 1, none⟩) (by show g ≠ w1.heap.size; omega) (by show w0.heap.size ≤ w1.heap.size; omega) _).step (below_alloc _ _)) ((G3.out.trans hg).low bel))
      have hw1 : IntKind.i64.wrap (14 + (j : Int)) = 14 + (j : Int) := hw _ hq
      clear hc hg Bp4 Br4 Br6 Bp6 B7 bel f1 f2 f3 f4 hw hsz
      go_wp2
      refine bodyPost_ret (v := .agg #[.int .i64 m, .slice (some ⟨w4.heap.size, 0, none⟩) (14 + j) (14 + j)]) (by simp [results, Try.results103, go_sem, e0, e1]) rfl ?_
      exact ⟨m, _, _, _, _, rfl, by have := HM.out; omega, by rw [List.length_replicate]; omega, FIN.out.1, FIN.out.2⟩
    · have Br5 := Br3.out
      have Bp5 := Bp3.out
      have a1 := Bp5.cell 0
      have a2 := Bp5.cell 1
      have x0 := Br5.cell 0
      have x1 := Br5.cell 1
      have y0 := Br5.frozen 0
      have y1 := Br5.frozen 1
      have x2 := (Br5.set_ 0 (.int .i64 m)).cell 1
      have y2 := (Br5.set_ 0 (.int .i64 m)).frozen 1
      have B6 := (Br5.set_ 0 (.int .i64 m)).set_ 1 (.slice A l c)
      have e0 := B6.cell 0
      have e1 := B6.cell 1
      obtain ⟨F, f1, f2, f3⟩ := OW.out w3 HG3.out
      have FIN := Lib.hid (END.out w3 m A l c body F f1 f2 (fun b hb => (f3 b hb).1) C3.out G3.out)
      clear Br5 Bp5 B6 f1 f2 f3
      go_wp2
      refine bodyPost_ret (v := .agg #[.int .i64 m, .slice A l c]) (by simp [results, Try.results103, go_sem, e0, e1]) rfl ?_
      exact ⟨m, A, l, c, body, rfl, by have := HM.out; omega, by have := HBL.out; omega, FIN.out.1, FIN.out.2⟩
set_option maxHeartbeats 1000000 in
set_option maxRecDepth 100000 in
theorem drawSc_c (v : Value) (xs : List UInt8) (w : World) (hx : Rd RB w v xs) (hn : xs.length ≤ 1048576) :
    Calls Try.prog 54 #[v] w fun e w' => ∃ k c m A l cc body, e = .returned (.tuple #[.int .i64 k, .int .i64 c, .agg #[.int .i64 m, .slice A l cc]]) ∧ Rd RB w' (.slice A l cc) body ∧ (-1 ≤ k ∧ k ≤ 2147483647) ∧ (c ∈ ([-1, 0, 1000000000000, 1000000000001] : List Int) ∨ (0 ≤ c ∧ c ≤ 49)) ∧ (-1 ≤ m ∧ m ≤ 4) ∧ body.length ≤ 15 ∧ Below w.heap.size w w' := by
  have bW := below_alloc w (.cells #[.int .i64 0, .slice none 0 0] 58)
  have hx1 := Rd_reads RB_reads _ _ _ _ hx bW
  have Br0 := Lib.hid (Box.new w 58 #[.int .i64 0, .slice none 0 0])
  have hs0 : (w.alloc (.cells #[.int .i64 0, .slice none 0 0] 58)).heap.size = w.heap.size + 1 := by simp
  have HS0 := Lib.hid hs0
  have BW := Lib.hid bW
  have NE := Lib.hid (new_c v xs (w.alloc (.cells #[.int .i64 0, .slice none 0 0] 58)) hx1 hn)
  have HX := Lib.hid hx1
  clear hx hx1 bW hs0
  go_enter Try.func54, Try.ntmps54
  go_wp2_with fail
  generalize w.alloc (.cells #[.int .i64 0, .slice none 0 0] 58) = w0 at *
  have hs0 : w.heap.size + 1 ≤ w0.heap.size := by have := HS0.out; omega
  have hne0 : w.heap.size ≠ w0.heap.size := by omega
  refine NE.out.mono ?_
  rintro e w1 ⟨rfl, hc⟩
  have C1 := Lib.hid hc
  have Br1 := Lib.hid (Br0.out.below hc.below (by omega))
  clear hc NE Br0
  go_wp2_with fail
  refine (key_c v xs w0.heap.size w0 w1 HX.out hn C1.out).mono ?_
  rintro e w2 ⟨k, hk, rfl, hc, hg⟩
  have C2 := Lib.hid hc
  have Br2 := Lib.hid (Br1.out.chg hg hne0)
  clear hc hg Br1
  go_wp2_with fail
  refine (ctr_c v xs w0.heap.size w0 w2 HX.out hn C2.out).mono ?_
  rintro e w3 ⟨c, hcc, rfl, hc, hg⟩
  have C3 := Lib.hid hc
  have hl3 := hc.lt
  have Br3 := Lib.hid (Br2.out.chg hg hne0)
  have HCC := Lib.hid hcc
  clear hc hg Br2 hcc
  go_wp2_with fail
  refine (any_c v xs w0.heap.size w0 w3 HX.out hn C3.out).mono ?_
  rintro e w4 ⟨m, A, l, cc, body, rfl, hm, hb, D, hc⟩
  have Br4 := Br3.out.chg D.chg hne0
  have d0 := Br4.cell 0
  have d1 := Br4.cell 1
  have f0 := Br4.frozen 0
  have f1 := Br4.frozen 1
  have d2 := (Br4.set_ 0 (.int .i64 m)).cell 1
  have f2 := (Br4.set_ 0 (.int .i64 m)).frozen 1
  have B5 := (Br4.set_ 0 (.int .i64 m)).set_ 1 (.slice A l cc)
  have e0 := B5.cell 0
  have e1 := B5.cell 1
  have RR : Hid (Rd RB ((w4.setCell ⟨w.heap.size, 0, none⟩ (.int .i64 m)).setCell ⟨w.heap.size, 1, none⟩ (.slice A l cc)) (.slice A l cc) body) := Lib.hid (by
    obtain ⟨wm, hmm, F, f1, f2, f3, f4⟩ := D
    have hms := hmm.2
    have ch : Chg w.heap.size (w.heap.size + 1) w4 ((w4.setCell ⟨w.heap.size, 0, none⟩ (.int .i64 m)).setCell ⟨w.heap.size, 1, none⟩ (.slice A l cc)) := ((Chg.refl _ _ w4).setCell (p := ⟨w.heap.size, 0, none⟩) (Nat.le_refl _) (Nat.lt_succ_self _) (.int .i64 m)).setCell (p := ⟨w.heap.size, 1, none⟩) (Nat.le_refl _) (Nat.lt_succ_self _) (.slice A l cc)
    exact ((Own_good FB_good).stab f1 (fun b hb => ch.block b ((Own_good FB_good).lt f1 b hb) (fun q => by have := f3 b hb; omega))).rd (fun q => q.rb))
  have T : Hid (Below w.heap.size w ((w4.setCell ⟨w.heap.size, 0, none⟩ (.int .i64 m)).setCell ⟨w.heap.size, 1, none⟩ (.slice A l cc))) := Lib.hid (((BW.out.trans (hc.below.mono (by omega))).setCell (p := ⟨w.heap.size, 0, none⟩) (Nat.le_refl _) _).setCell (p := ⟨w.heap.size, 1, none⟩) (Nat.le_refl _) _)
  clear Br4 B5 D hc
  go_wp2
  refine bodyPost_ret (v := .tuple #[.int .i64 k, .int .i64 c, .agg #[.int .i64 m, .slice A l cc]]) (by simp [results, Try.results54, go_sem, e0, e1]) rfl ?_
  exact ⟨k, c, m, A, l, cc, body, rfl, RR.out, hk, HCC.out, hm, hb, T.out⟩
end Go.Proofs.Ytokhogdocaeelaa
