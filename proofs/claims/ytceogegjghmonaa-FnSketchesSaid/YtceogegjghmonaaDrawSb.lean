/- DrawShareBytes. -/
import Derived.Test.YtceogegjghmonaaDraw2
namespace Go.Proofs.Ytceogegjghmonaa
set_option linter.unusedVariables false
open Go.RowKit

theorem Drew.rdB {E : TypeId} {g : Nat} {w w' w2 : World} {v : Value} {x : List UInt8} (h : Drew (Own E FB) g w w' v x) (hg : g < w.heap.size) (hc : Chg g (g + 1) w' w2) : Rd RB w2 v x := by
  obtain ⟨wm, hm, F, f1, f2, f3, f4⟩ := h
  exact Rd_chg (R := Own E FB) (R' := Rd RB) (B := w.heap.size) (fun q => q.rd (fun k => k.rb)) (Own_good FB_good) f1 (fun b hb => by have := f3 b hb; have := hm.2; omega) hc hg
theorem Drew.rdI {E : TypeId} {g : Nat} {w w' w2 : World} {v : Value} {x : List Int} (h : Drew (Own E FI) g w w' v x) (hg : g < w.heap.size) (hc : Chg g (g + 1) w' w2) : Rd RI w2 v x := by
  obtain ⟨wm, hm, F, f1, f2, f3, f4⟩ := h
  exact Rd_chg (R := Own E FI) (R' := Rd RI) (B := w.heap.size) (fun q => q.rd (fun k => k.ri)) (Own_good FI_good) f1 (fun b hb => by have := f3 b hb; have := hm.2; omega) hc hg
set_option maxHeartbeats 2000000 in
set_option maxRecDepth 100000 in
theorem drawSb_c (v : Value) (xs : List UInt8) (w : World) (hx : Rd RB w v xs) (hn : xs.length ≤ 1048576) :
    Calls Try.prog 24 #[v] w fun e w' => ∃ A1 n1 c1 A2 n2 c2 b seeds, e = .returned (.tuple #[.slice A1 n1 c1, .slice A2 n2 c2]) ∧ Rd RB w' (.slice A1 n1 c1) b ∧ Rd RI w' (.slice A2 n2 c2) seeds ∧ b.length ≤ 401 ∧ seeds.length ≤ 4 ∧ Below w.heap.size w w' := by
  have NE := Lib.hid (new_c v xs w hx hn)
  have HX := Lib.hid hx
  clear hx
  go_enter Try.func24, Try.ntmps24
  go_wp2_with fail
  refine NE.out.mono ?_
  rintro e w1 ⟨rfl, hc⟩
  have C1 := Lib.hid hc
  have hg1 := hc.lt
  have LI : Hid (Calls Try.prog 94 #[.pointer (some ⟨w.heap.size, 0, none⟩), .slice (some ⟨w1.heap.size, 0, none⟩) 6 6] (w1.alloc (.cells #[.int .i64 0, .int .i64 1, .int .i64 5, .int .i64 16, .int .i64 400, .int .i64 401] 3)) (DrewN 0 401 w v w.heap.size (w1.alloc (.cells #[.int .i64 0, .int .i64 1, .int .i64 5, .int .i64 16, .int .i64 400, .int .i64 401] 3)))) := Lib.hid (by
    have r := rd_rowI (Row_lit (E := 3) (B := w1.heap.size) w1 #[.int .i64 0, .int .i64 1, .int .i64 5, .int .i64 16, .int .i64 400, .int .i64 401] (Nat.le_refl _) (by simp [maxLen])).1 (xs := [0, 1, 5, 16, 400, 401]) rfl
    exact lint_c v xs w.heap.size [0, 1, 5, 16, 400, 401] 0 401 w _ w1.heap.size 0 6 6 HX.out hn (C1.out.step (below_alloc w1 _)) r (by omega) (by omega) (by omega) (by simp))
  clear hc
  go_wp2_with fail
  refine LI.out.mono ?_
  rintro e w2 ⟨m, hm, rfl, hc, hg⟩
  obtain ⟨k, rfl⟩ := Int.eq_ofNat_of_zero_le hm.1
  have C2 := Lib.hid hc
  have hg2 := hc.lt
  clear hc hg LI
  go_wp2_with fail
  refine (bytes_c v xs w.heap.size k w w2 HX.out hn (by omega) C2.out).mono ?_
  rintro e w3 ⟨v3, b, hb, rfl, D3, hc⟩
  have C3 := Lib.hid hc
  obtain ⟨A1, n1, c1, rfl⟩ : ∃ A l c, v3 = .slice A l c := by obtain ⟨_, _, F⟩ := D3; exact fresh_slice F
  have D3 := Lib.hid D3
  have HB := Lib.hid hb
  clear hc hb
  go_wp2_with fail
  refine (seeds_c v xs w.heap.size w w3 HX.out hn C3.out).mono ?_
  rintro e w4 ⟨v4, seeds, hs, rfl, D4, hc⟩
  obtain ⟨A2, n2, c2, rfl⟩ : ∃ A l c, v4 = .slice A l c := by obtain ⟨_, _, F⟩ := D4; exact fresh_slice F
  have R3 := Lib.hid (D3.out.rdB hg2 D4.chg)
  have R4 := Lib.hid (D4.rdI C3.out.lt (Chg.refl _ _ _))
  have T := Lib.hid hc.below
  have HS := Lib.hid hs
  clear D4 hc hs
  go_wp2
  refine bodyPost_ret (v := .tuple #[.slice A1 n1 c1, .slice A2 n2 c2]) (by simp [results, Try.results24, go_sem]) rfl ?_
  exact ⟨A1, n1, c1, A2, n2, c2, b, seeds, rfl, R3.out, R4.out, by rw [HB.out]; omega, HS.out, T.out⟩
end Go.Proofs.Ytceogegjghmonaa
