/- ApplyWrite of both sides. -/
import Derived.Test.YtokhogdocaeelaaXdbS
namespace Go.Proofs.Ytokhogdocaeelaa
set_option linter.unusedVariables false
open Go.RowKit

set_option maxHeartbeats 1000000 in
theorem implApply_c (v1 v2 : Value) (a b : List (List UInt8)) (ok : Bool) (w : World) (h1 : Rd (Rd RB) w v1 a) (h2 : Rd (Rd RB) w v2 b) (hok : Hid (xdOk a b = ok)) (hn : tot a ≤ 1048576) (hm : tot b ≤ 1048576) :
    Calls Try.prog 20 #[.agg #[v1], .agg #[v2]] w fun e w' => ∃ A l c, e = .returned (.tuple #[.agg #[.slice A l c], .bool ok]) ∧ Fresh OBB w w' (.slice A l c) (xorDb a b) := by
  obtain ⟨A, n, c, rfl, h1'⟩ := h1
  obtain ⟨B, m, d, rfl, h2'⟩ := h2
  have h1 : Rd (Rd RB) w (.slice A n c) a := ⟨_, _, _, rfl, h1'⟩
  have h2 : Rd (Rd RB) w (.slice B m d) b := ⟨_, _, _, rfl, h2'⟩
  clear h1' h2'
  obtain ⟨B_a, B_b, B_r, T, hs_w0⟩ := boxes3 w 31 #[.slice A n c] 31 #[.slice B m d] 31 #[.slice none 0 0]
  replace B_a := Lib.hid B_a
  replace B_b := Lib.hid B_b
  replace B_r := Lib.hid B_r
  have RA := Rd_reads (Rd_reads RB_reads) _ _ _ _ h1 T
  have RB_ := Rd_reads (Rd_reads RB_reads) _ _ _ _ h2 T
  go_enter Try.func20, Try.ntmps20
  go_wp2_with fail
  generalize (((w.alloc (.cells #[.slice A n c] 31)).alloc (.cells #[.slice B m d] 31)).alloc (.cells #[.slice none 0 0] 31)) = w0 at *
  refine (implXorDb_c _ _ a b ok _ RA RB_ hok hn hm).mono ?_
  rintro e w1 ⟨A1, l1, c1, rfl, F⟩
  have T1 := Lib.hid T
  have hr1 := B_r.out.lt
  have FH := Lib.hid F
  replace B_a := Lib.hid (B_a.out.below F.below B_a.out.lt)
  replace B_b := Lib.hid (B_b.out.below F.below B_b.out.lt)
  replace B_r := Lib.hid (B_r.out.below F.below B_r.out.lt)
  replace RA := Rd_reads (Rd_reads RB_reads) _ _ _ _ RA F.below
  replace RB_ := Rd_reads (Rd_reads RB_reads) _ _ _ _ RB_ F.below
  replace T := T.trans (F.below.mono T.size)
  have hs_1 := F.below.size
  clear F
  have c_r_0 : (w1).cell? ⟨w.heap.size + 2, 0, none⟩ = some (.slice none 0 0) := B_r.out.cell 0
  have f_r_0 : (w1).frozen? ⟨w.heap.size + 2, 0, none⟩ = false := B_r.out.frozen 0
  go_wp2
  have c12 := (B_r.out.set_ 0 (.slice A1 l1 c1)).cell 0
  have FIN := Lib.hid (FH.out.boxed OBB_good T1.out (p := ⟨w.heap.size + 2, 0, none⟩) (by simp) hr1 (.slice A1 l1 c1))
  refine bodyPost_ret (v := .tuple #[.agg #[.slice A1 l1 c1], .bool ok]) (by simp [results, Try.results20, go_sem, c12]) rfl ⟨_, _, _, rfl, FIN.out⟩
end Go.Proofs.Ytokhogdocaeelaa
