/- The drawing functions: a cell, the arguments of ReplaceRow and of ReadPrivately. -/
import Derived.Test.YtokhogdocaeelaaDraw4
namespace Go.Proofs.Ytokhogdocaeelaa
set_option linter.unusedVariables false
open Go.RowKit

theorem Chg.widen {lo hi lo' hi' : Nat} {w w' : World} (h : Chg lo hi w w') (h1 : lo' ≤ lo) (h2 : hi ≤ hi') : Chg lo' hi' w w' :=
  ⟨h.os, h.tape, h.output, h.size, fun k hk hn => h.block k hk (fun q => hn ⟨by omega, by omega⟩)⟩
theorem Drew.rdw {α : Type} {R : FRel α} {R' : Rel α} (hR : Good R) (hRR : ∀ {w v x G}, R w v x G → R' w v x) {g lo : Nat} {w w' w2 : World} {v : Value} {x : α} (h : Drew R g w w' v x) (hg : g < w.heap.size) (hc : Chg lo (g + 1) w' w2) : R' w2 v x := by
  obtain ⟨wm, hm, F, f1, f2, f3, f4⟩ := h
  exact hRR (hR.stab f1 (fun b hb => hc.block b (hR.lt f1 b hb) (fun q => by have := f3 b hb; have := hm.2; omega)))
set_option maxHeartbeats 1000000 in
theorem l8cell_c (V : Value) (xs : List UInt8) (g : Nat) (w0 w : World) (hx : Rd RB w0 V xs) (hn : xs.length ≤ 1048576) (h : CurT w0 V g w) :
    Calls Try.prog 62 #[.pointer (some ⟨g, 0, none⟩)] w fun e w' => ∃ A l c ys, e = .returned (.slice A l c) ∧ Drew (Own 5 FB) g w w' (.slice A l c) ys ∧ CurT w0 V g w' ∧ ys.length ≤ 25 := by
  have hgl := h.lt
  have cw := Lib.hid (Chg.of_below (lo := g) (hi := g + 1) (below_alloc w (.cells #[.int .i64 24, .int .i64 24, .int .i64 24, .int .i64 0, .int .i64 23, .int .i64 25] 3)))
  have LI : Hid (Calls Try.prog 60 #[.pointer (some ⟨g, 0, none⟩), .slice (some ⟨w.heap.size, 0, none⟩) 6 6] (w.alloc (.cells #[.int .i64 24, .int .i64 24, .int .i64 24, .int .i64 0, .int .i64 23, .int .i64 25] 3)) (DrewN 0 25 w0 V g (w.alloc (.cells #[.int .i64 24, .int .i64 24, .int .i64 24, .int .i64 0, .int .i64 23, .int .i64 25] 3)))) := Lib.hid (by
    have r := rd_rowI (Row_lit (E := 3) (B := w.heap.size) w #[.int .i64 24, .int .i64 24, .int .i64 24, .int .i64 0, .int .i64 23, .int .i64 25] (Nat.le_refl _) (by simp [maxLen])).1 (xs := [24, 24, 24, 0, 23, 25]) rfl
    exact lint_c V xs g [24, 24, 24, 0, 23, 25] 0 25 w0 _ w.heap.size 0 6 6 hx hn (h.step (below_alloc w _)) r (by omega) (by omega) (by omega) (by simp))
  have BY : Hid (∀ (n : Nat) W, n ≤ 1000000 → CurT w0 V g W → Calls Try.prog 105 #[.pointer (some ⟨g, 0, none⟩), .int .i64 (n : Int)] W fun e w' => ∃ v' ys, ys.length = n ∧ e = .returned v' ∧ Drew (Own 5 FB) g W w' v' ys ∧ CurT w0 V g w') := Lib.hid (fun n W h1 hW => bytes_c V xs g n w0 W hx hn h1 hW)
  clear h hx
  go_enter Try.func62, Try.ntmps62
  go_wp2_with fail
  refine LI.out.mono ?_
  rintro e w1 ⟨r, hr, rfl, hc, hg⟩
  obtain ⟨k, rfl⟩ := Int.eq_ofNat_of_zero_le hr.1
  have C1 := Lib.hid hc
  have G1 := Lib.hid (cw.out.trans hg)
  clear hc hg LI cw
  go_wp2_with fail
  refine (BY.out k _ (by omega) C1.out).mono ?_
  rintro e w2 ⟨v2, ys, hys, rfl, D, hc⟩
  obtain ⟨A, l, c, rfl⟩ : ∃ A l c, v2 = .slice A l c := by obtain ⟨_, _, F⟩ := D; exact fresh_slice F
  have DD := Lib.hid (D.pre hgl G1.out)
  have CC := Lib.hid hc
  have HY := Lib.hid hys
  clear D hc hys
  go_wp2
  go_ret
  exact ⟨_, _, _, ys, rfl, DD.out, CC.out, by rw [HY.out]; omega⟩
end Go.Proofs.Ytokhogdocaeelaa
