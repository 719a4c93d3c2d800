/- The drawing functions: a cell, the arguments of ReplaceRow and of ReadPrivately. -/
import Derived.Test.YtceogegjghmonaaDraw4
namespace Go.Proofs.Ytceogegjghmonaa
set_option linter.unusedVariables false
open Go.RowKit

theorem Chg.widen {lo hi lo' hi' : Nat} {w w' : World} (h : Chg lo hi w w') (h1 : lo' ≤ lo) (h2 : hi ≤ hi') : Chg lo' hi' w w' :=
  ⟨h.os, h.tape, h.output, h.size, fun k hk hn => h.block k hk (fun q => hn ⟨by omega, by omega⟩)⟩
theorem Drew.rdw {α : Type} {R : FRel α} {R' : Rel α} (hR : Good R) (hRR : ∀ {w v x G}, R w v x G → R' w v x) {g lo : Nat} {w w' w2 : World} {v : Value} {x : α} (h : Drew R g w w' v x) (hg : g < w.heap.size) (hc : Chg lo (g + 1) w' w2) : R' w2 v x := by
  obtain ⟨wm, hm, F, f1, f2, f3, f4⟩ := h
  exact hRR (hR.stab f1 (fun b hb => hc.block b (hR.lt f1 b hb) (fun q => by have := f3 b hb; have := hm.2; omega)))
set_option maxHeartbeats 1000000 in
theorem l8cell_c (V : Value) (xs : List UInt8) (g : Nat) (w0 w : World) (hx : Rd RB w0 V xs) (hn : xs.length ≤ 1048576) (h : CurT w0 V g w) :
    Calls Try.prog 98 #[.pointer (some ⟨g, 0, none⟩)] w fun e w' => ∃ A l c ys, e = .returned (.slice A l c) ∧ Drew (Own 5 FB) g w w' (.slice A l c) ys ∧ CurT w0 V g w' ∧ ys.length ≤ 25 := by
  have hgl := h.lt
  have cw := Lib.hid (Chg.of_below (lo := g) (hi := g + 1) (below_alloc w (.cells #[.int .i64 24, .int .i64 24, .int .i64 24, .int .i64 0, .int .i64 23, .int .i64 25] 3)))
  have LI : Hid (Calls Try.prog 94 #[.pointer (some ⟨g, 0, none⟩), .slice (some ⟨w.heap.size, 0, none⟩) 6 6] (w.alloc (.cells #[.int .i64 24, .int .i64 24, .int .i64 24, .int .i64 0, .int .i64 23, .int .i64 25] 3)) (DrewN 0 25 w0 V g (w.alloc (.cells #[.int .i64 24, .int .i64 24, .int .i64 24, .int .i64 0, .int .i64 23, .int .i64 25] 3)))) := Lib.hid (by
    have r := rd_rowI (Row_lit (E := 3) (B := w.heap.size) w #[.int .i64 24, .int .i64 24, .int .i64 24, .int .i64 0, .int .i64 23, .int .i64 25] (Nat.le_refl _) (by simp [maxLen])).1 (xs := [24, 24, 24, 0, 23, 25]) rfl
    exact lint_c V xs g [24, 24, 24, 0, 23, 25] 0 25 w0 _ w.heap.size 0 6 6 hx hn (h.step (below_alloc w _)) r (by omega) (by omega) (by omega) (by simp))
  have BY : Hid (∀ (n : Nat) W, n ≤ 1000000 → CurT w0 V g W → Calls Try.prog 93 #[.pointer (some ⟨g, 0, none⟩), .int .i64 (n : Int)] W fun e w' => ∃ v' ys, ys.length = n ∧ e = .returned v' ∧ Drew (Own 5 FB) g W w' v' ys ∧ CurT w0 V g w') := Lib.hid (fun n W h1 hW => bytes_c V xs g n w0 W hx hn h1 hW)
  clear h hx
  go_enter Try.func98, Try.ntmps98
  go_wp2_with fail
  refine LI.out.mono ?_
  rintro e w1 ⟨r, hr, rfl, hc, hg⟩
  obtain ⟨k, rfl⟩ := Int.eq_ofNat_of_zero_le hr.1
  have C1 := Lib.hid hc
  have G1 := Lib.hid (cw.out.trans hg)
  clear hc hg LI cw
  go_wp2_with fail
  refine (BY.out k _ (by omega) C1.out).mono ?_
  rintro e w2 ⟨v2, ys, hys, rfl, D, hc⟩
  obtain ⟨A, l, c, rfl⟩ : ∃ A l c, v2 = .slice A l c := by obtain ⟨_, _, F⟩ := D; exact fresh_slice F
  have DD := Lib.hid (D.pre hgl G1.out)
  have CC := Lib.hid hc
  have HY := Lib.hid hys
  clear D hc hys
  go_wp2
  go_ret
  exact ⟨_, _, _, ys, rfl, DD.out, CC.out, by rw [HY.out]; omega⟩
set_option maxHeartbeats 1000000 in
set_option maxRecDepth 100000 in
theorem drawRp_c (v : Value) (xs : List UInt8) (w : World) (hx : Rd RB w v xs) (hn : xs.length ≤ 1048576) :
    Calls Try.prog 14 #[v] w fun e w' => ∃ A l c ds i A2 l2 c2 seeds, e = .returned (.tuple #[.agg #[.slice A l c], .int .i64 i, .slice A2 l2 c2]) ∧ Rd (Rd RB) w' (.slice A l c) ds ∧ Rd RI w' (.slice A2 l2 c2) seeds ∧ ds.length ≤ 64 ∧ LenLe 25 ds ∧ (-1 ≤ i ∧ i ≤ 6) ∧ seeds.length ≤ 4 ∧ Below w.heap.size w w' := by
  have bW := below_alloc w (.cells #[.slice none 0 0] 26)
  have hx1 := Rd_reads RB_reads _ _ _ _ hx bW
  have Br0 := Lib.hid (Box.new w 26 #[.slice none 0 0])
  have hs0 : (w.alloc (.cells #[.slice none 0 0] 26)).heap.size = w.heap.size + 1 := by simp
  have HS0 := Lib.hid hs0
  have BW := Lib.hid bW
  have NE := Lib.hid (new_c v xs (w.alloc (.cells #[.slice none 0 0] 26)) hx1 hn)
  have HX := Lib.hid hx1
  clear hx hx1 bW hs0
  go_enter Try.func14, Try.ntmps14
  go_wp2_with fail
  generalize w.alloc (.cells #[.slice none 0 0] 26) = w0 at *
  have hs0 : w.heap.size + 1 ≤ w0.heap.size := by have := HS0.out; omega
  have hne0 : w.heap.size ≠ w0.heap.size := by omega
  refine NE.out.mono ?_
  rintro e w1 ⟨rfl, hc⟩
  have C1 := Lib.hid hc
  have hl1 := hc.lt
  have Br1 := Lib.hid (Br0.out.below hc.below (by omega))
  clear hc NE Br0
  go_wp2_with fail
  refine (l8any_c v xs w0.heap.size w0 w1 HX.out hn C1.out).mono ?_
  rintro e w2 ⟨A, l, c, ds, rfl, D2, hc, hl, hle⟩
  have C2 := Lib.hid (hc.step (below_alloc w2 (.cells #[.slice A l c] 26)))
  have D2H := Lib.hid D2
  have Br2 := Lib.hid ((Br1.out.chg D2.chg hne0).alloc (.cells #[.slice A l c] 26))
  have Bd2 := Lib.hid (Box.new w2 26 #[.slice A l c])
  have hl2 := hc.lt
  have HLE := Lib.hid hle
  have G2 := Lib.hid (Chg.of_below (lo := w0.heap.size) (hi := w0.heap.size + 1) (below_alloc w2 (.cells #[.slice A l c] 26)))
  clear hc D2 hle Br1
  go_wp2_with fail
  refine (belowN_c v xs w0.heap.size 8 w0 _ HX.out hn (by omega) (by omega) C2.out).mono ?_
  rintro e w3 ⟨r, hr, rfl, hc, hg⟩
  have C3 : Hid (CurT w0 v w0.heap.size w3.drew) := Lib.hid hc.drew
  have G3 : Hid (Chg w0.heap.size (w0.heap.size + 1) w2 w3.drew) := Lib.hid ((G2.out.trans hg).drew_)
  have hsz : (w2.alloc (.cells #[.slice A l c] 26)).heap.size = w2.heap.size + 1 := by simp
  have hs3 := hg.size
  have hne2 : w2.heap.size ≠ w0.heap.size := by omega
  have Br3 : Hid (Box w3.drew w.heap.size 26 #[.slice none 0 0]) := Lib.hid (Br2.out.chg hg.drew_ hne0)
  have Bd3 : Hid (Box w3.drew w2.heap.size 26 #[.slice A l c]) := Lib.hid (Bd2.out.chg hg.drew_ hne2)
  have k0 : w3.drew.cell? ⟨w2.heap.size, 0, none⟩ = some (.slice A l c) := Bd3.out.cell 0
  have SD := Lib.hid (seeds_c v xs w0.heap.size w0 w3.drew HX.out hn C3.out)
  have hl3 : w0.heap.size < w3.drew.heap.size := C3.out.lt
  clear hc hg Br2 Bd2 C2 G2
  go_wp2_with fail
  go_region_held3 (fun w' => w'.cell? ⟨w2.heap.size, 0, none⟩ = some (.slice A l c))
    (first | (exact k0) | (exact k1) | (exact k2) | go_keep)
    (first | (go_at_call 80; refine SD.out.mono ?_; rintro e w4 ⟨v4, seeds, hsl, rfl, D4, hc4⟩; obtain ⟨A2, l2, c2, rfl⟩ : ∃ A l c, v4 = .slice A l c := (by obtain ⟨_, _, F⟩ := D4; exact fresh_slice F); have Br4 := Lib.hid (Br3.out.chg D4.chg hne0); have Bd4 := Lib.hid (Bd3.out.chg D4.chg hne2); have k1 : w4.cell? ⟨w2.heap.size, 0, none⟩ = some (.slice A l c) := Bd4.out.cell 0; have x4 : w4.cell? ⟨w.heap.size, 0, none⟩ = some (.slice none 0 0) := Br4.out.cell 0; have y4 := Br4.out.frozen 0; have k2 : (w4.setCell ⟨w.heap.size, 0, none⟩ (.slice A l c)).cell? ⟨w2.heap.size, 0, none⟩ = some (.slice A l c) := (Bd4.out.far (p := ⟨w.heap.size, 0, none⟩) (by show w2.heap.size ≠ w.heap.size; omega) (.slice A l c)).cell 0; have c4 := (Br4.out.set_ 0 (.slice A l c)).cell 0; have D4H := Lib.hid D4; have C4 := Lib.hid hc4; clear D4 hc4))
  all_goals
    have ch : Chg w.heap.size (w0.heap.size + 1) w4 (w4.setCell ⟨w.heap.size, 0, none⟩ (.slice A l c)) := (Chg.refl _ _ w4).setCell (p := ⟨w.heap.size, 0, none⟩) (Nat.le_refl _) (by show w.heap.size < _; omega) _
    have r1 := Lib.hid (D2H.out.rdw (R' := Rd (Rd RB)) (Own_good (Own_good FB_good)) Own_rdBB hl1 (((G3.out.trans D4H.out.chg).widen (lo' := w.heap.size) (by omega) (Nat.le_refl _)).trans ch))
    have r2 := Lib.hid (D4H.out.rdw (R' := Rd RI) (Own_good FI_good) (fun q => q.rd (fun z => z.ri)) hl3 ch)
    have T := Lib.hid ((BW.out.trans (C4.out.below.mono (by omega))).setCell (p := ⟨w.heap.size, 0, none⟩) (Nat.le_refl _) (.slice A l c))
    clear ch
    go_wp2
    refine bodyPost_ret (v := .tuple #[.agg #[.slice A l c], .int .i64 (r - 1), .slice A2 l2 c2]) (by simp [results, Try.results14, go_sem, c4]) rfl ?_
    exact ⟨A, l, c, ds, r - 1, A2, l2, c2, seeds, rfl, r1.out, r2.out, hl, HLE.out, by omega, hsl, T.out⟩
end Go.Proofs.Ytceogegjghmonaa
