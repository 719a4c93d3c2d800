/- What the reference's DrawMakeWrite gives. -/
import Derived.Test.YtokhogdocaeelaaDrawSb
import Derived.Test.YtokhogdocaeelaaDraw5
namespace Go.Proofs.Ytokhogdocaeelaa
set_option linter.unusedVariables false
open Go.RowKit

set_option maxHeartbeats 1000000 in
set_option maxRecDepth 100000 in
theorem drawMw_c (v : Value) (xs : List UInt8) (w : World) (hx : Rd RB w v xs) (hn : xs.length ≤ 1048576) :
    Calls Try.prog 13 #[v] w fun e w' => ∃ rows ix A1 n1 c1 A2 n2 c2 cell seeds, e = .returned (.tuple #[.int .i64 rows, .int .i64 ix, .slice A1 n1 c1, .slice A2 n2 c2]) ∧ Rd RB w' (.slice A1 n1 c1) cell ∧ Rd RI w' (.slice A2 n2 c2) seeds ∧ (0 ≤ rows ∧ rows ≤ 65) ∧ (-1 ≤ ix ∧ ix ≤ 5) ∧ cell.length ≤ 25 ∧ seeds.length ≤ 4 ∧ Below w.heap.size w w' := by
  have NE := Lib.hid (new_c v xs w hx hn)
  have HX := Lib.hid hx
  clear hx
  go_enter Try.func13, Try.ntmps13
  go_wp2_with fail
  refine NE.out.mono ?_
  rintro e w1 ⟨rfl, hc⟩
  have C1 := Lib.hid hc
  have hg1 := hc.lt
  have LI : Hid (Calls Try.prog 60 #[.pointer (some ⟨w.heap.size, 0, none⟩), .slice (some ⟨w1.heap.size, 0, none⟩) 6 6] (w1.alloc (.cells #[.int .i64 0, .int .i64 1, .int .i64 3, .int .i64 6, .int .i64 64, .int .i64 65] 3)) (DrewN 0 65 w v w.heap.size (w1.alloc (.cells #[.int .i64 0, .int .i64 1, .int .i64 3, .int .i64 6, .int .i64 64, .int .i64 65] 3)))) := Lib.hid (by
    have r := rd_rowI (Row_lit (E := 3) (B := w1.heap.size) w1 #[.int .i64 0, .int .i64 1, .int .i64 3, .int .i64 6, .int .i64 64, .int .i64 65] (Nat.le_refl _) (by simp [maxLen])).1 (xs := [0, 1, 3, 6, 64, 65]) rfl
    exact lint_c v xs w.heap.size [0, 1, 3, 6, 64, 65] 0 65 w _ w1.heap.size 0 6 6 HX.out hn (C1.out.step (below_alloc w1 _)) r (by omega) (by omega) (by omega) (by simp))
  clear hc
  go_wp2_with fail
  refine LI.out.mono ?_
  rintro e w2 ⟨m, hm, rfl, hc, hg⟩
  have C2 := Lib.hid hc
  clear hc hg LI
  go_wp2_with fail
  refine (belowN_c v xs w.heap.size 7 w w2 HX.out hn (by omega) (by omega) C2.out).mono ?_
  rintro e w3 ⟨r, hr, rfl, hc, hg⟩
  have hwr : IntKind.i64.wrap (r - 1) = r - 1 := IntWalk.i64_in _ (by omega)
  have C3 := Lib.hid hc
  have hg3 := hc.lt
  clear hc hg
  go_wp2_with fail
  refine (l8cell_c v xs w.heap.size w w3 HX.out hn C3.out).mono ?_
  rintro e w4 ⟨A1, n1, c1, b, rfl, D4, hc, hb⟩
  have C4 := Lib.hid hc
  have D4 := Lib.hid D4
  have HB := Lib.hid hb
  clear hc hb
  go_wp2_with fail
  refine (seeds_c v xs w.heap.size w w4 HX.out hn C4.out).mono ?_
  rintro e w5 ⟨v5, seeds, hs, rfl, D5, hc⟩
  obtain ⟨A2, n2, c2, rfl⟩ : ∃ A l c, v5 = .slice A l c := by obtain ⟨_, _, F⟩ := D5; exact fresh_slice F
  have R4 := Lib.hid (D4.out.rdB hg3 D5.chg)
  have R5 := Lib.hid (D5.rdI C4.out.lt (Chg.refl _ _ _))
  have T := Lib.hid hc.below
  have HS := Lib.hid hs
  clear D5 hc hs
  go_wp2
  refine bodyPost_ret (v := .tuple #[.int .i64 m, .int .i64 (r - 1), .slice A1 n1 c1, .slice A2 n2 c2]) (by simp [results, Try.results13, go_sem]) rfl ?_
  exact ⟨m, r - 1, A1, n1, c1, A2, n2, c2, b, seeds, rfl, R4.out, R5.out, hm, by omega, HB.out, HS.out, T.out⟩
end Go.Proofs.Ytokhogdocaeelaa
