/- CellCheck, in the program and in the reference. -/
import Derived.Test.YtokhogdocaeelaaHash
namespace Go.Proofs.Ytokhogdocaeelaa
set_option linter.unusedVariables false
open Go.RowKit

/-- The list that CellCheck hashes. -/
def cellInts (c : Int) (d : List UInt8) : List Int := 71 :: c :: d.map (fun x => (x.toNat : Int))
def cellCk (k c : Int) (d : List UInt8) : Int := khash k (cellInts c d)
theorem cellInts_snoc (c : Int) (d : List UInt8) (x : UInt8) : cellInts c (d ++ [x]) = cellInts c d ++ [(x.toNat : Int)] := by simp [cellInts]

set_option maxHeartbeats 1000000 in
theorem specCellCheck_c (k c : Int) (v : Value) (d : List UInt8) (w : World) (h : Rd RB w v d) (hn : d.length ≤ 17179869184) :
    Calls Try.prog 87 #[.int .i64 k, .int .i64 c, v] w fun e w' => e = .returned (.int .i64 (cellCk k c d)) ∧ Below w.heap.size w w' := by
  obtain ⟨A, n, cap, rfl, h⟩ := h
  have hnn : n ≤ 17179869184 := h.1 ▸ hn
  have H := Lib.hid h
  clear h hn
  go_enter Try.func87, Try.ntmps87
  go_wp2
  go_loopw [7, 8] (fun o i wr => ∃ j : Nat, j ≤ n ∧ i = .int .i64 j ∧ Row 3 w.heap.size wr o (j + 2) ((cellInts c (d.take j)).map (fun x => Value.int .i64 x)) ∧ Below w.heap.size w wr) (fun _ i _ => n - (intOf i).toNat)
  case atStart => exact ⟨0, Nat.zero_le _, rfl, Row_lit w #[.int .i64 71, .int .i64 c] (Nat.le_refl _) (by simp [maxLen]), below_alloc w _⟩
  case round =>
    obtain ⟨j, hj, rfl, hrow, hb⟩ := hrel
    by_cases hlt : j < n
    · obtain ⟨b, off, x, u, rfl, hbb, hx, hu, hr⟩ := H.out.at_ hlt
      have g1 := (hb.cell (p := ⟨b, off + j, none⟩) hbb).trans hu
      unfold RB at hr
      subst hr
      have HS : Hid (cellInts c (d.take (j + 1)) = cellInts c (d.take j) ++ [(x.toNat : Int)]) := Lib.hid (by rw [take_succ_get d j x hx, cellInts_snoc])
      clear hx hu
      have hx1 := x.toNat_lt
      go_wp2_with (at_builtin; refine wpList_app elI rfl (.tmp 17) (.tmp 23) rfl _ (j + 2) _ rfl (hrow.1.alloc _) (some ⟨wr.heap.size, 0, none⟩) 1 1 [.int .i64 (x.toNat : Int)] rfl (Src_one _ _ _) (one_single _ rfl) (by simp only [maxLen]; omega) (by omega) ?_; intro v2 w2 hown2 hg2 hat2)
      have r := hrow.app hb hb.size hown2 hg2 hat2
      rw [show (cellInts c (d.take j)).map (fun x => Value.int .i64 x) ++ [.int .i64 (x.toNat : Int)] = (cellInts c (d.take (j + 1))).map (fun x => Value.int .i64 x) by rw [HS.out]; simp] at r
      go_roundw
      case rel => exact ⟨j + 1, by omega, by go_num, r.1, r.2⟩
      case measure => simp [intOf]; omega
    · have hjn : j = n := by omega
      subst hjn
      have hfull : cellInts c (d.take j) = cellInts c d := by rw [List.take_of_length_le (by have := H.out.1; omega)]
      rw [hfull] at hrow
      clear hfull
      go_wp2_with fail
      refine (specKeyedHash_c _ _ (cellInts c d) _ (rd_rowI hrow.1 rfl) (by simp [cellInts, H.out.1]; omega)).mono ?_
      rintro e w3 ⟨rfl, b⟩
      go_wp2
      go_ret
      exact ⟨rfl, hb.trans (b.mono hb.size)⟩
set_option maxHeartbeats 1000000 in
theorem implCellCheck_c (k c : Int) (v : Value) (d : List UInt8) (w : World) (h : Rd RB w v d) (hn : d.length ≤ 17179869184) :
    Calls Try.prog 123 #[.int .i64 k, .int .i64 c, v] w fun e w' => e = .returned (.int .i64 (cellCk k c d)) ∧ Below w.heap.size w w' := by
  obtain ⟨A, n, cap, rfl, h⟩ := h
  have hnn : n ≤ 17179869184 := h.1 ▸ hn
  have H := Lib.hid h
  clear h hn
  go_enter Try.func123, Try.ntmps123
  go_wp2
  go_loopw [7, 14] (fun o i wr => ∃ j : Nat, j ≤ n ∧ i = .int .i64 j ∧ Row 3 w.heap.size wr o (j + 2) ((cellInts c (d.take j)).map (fun x => Value.int .i64 x)) ∧ Below w.heap.size w wr) (fun _ i _ => n - (intOf i).toNat)
  case atStart => exact ⟨0, Nat.zero_le _, rfl, Row_lit w #[.int .i64 71, .int .i64 c] (Nat.le_refl _) (by simp [maxLen]), below_alloc w _⟩
  case round =>
    obtain ⟨j, hj, rfl, hrow, hb⟩ := hrel
    by_cases hlt : j < n
    · obtain ⟨b, off, x, u, rfl, hbb, hx, hu, hr⟩ := H.out.at_ hlt
      have g1 := (hb.cell (p := ⟨b, off + j, none⟩) hbb).trans hu
      unfold RB at hr
      subst hr
      have HS : Hid (cellInts c (d.take (j + 1)) = cellInts c (d.take j) ++ [(x.toNat : Int)]) := Lib.hid (by rw [take_succ_get d j x hx, cellInts_snoc])
      clear hx hu
      have hx1 := x.toNat_lt
      go_wp2_with (at_builtin; refine wpList_app elI rfl (.tmp 18) (.tmp 21) rfl _ (j + 2) _ rfl (hrow.1.alloc _) (some ⟨wr.heap.size, 0, none⟩) 1 1 [.int .i64 (x.toNat : Int)] rfl (Src_one _ _ _) (one_single _ rfl) (by simp only [maxLen]; omega) (by omega) ?_; intro v2 w2 hown2 hg2 hat2)
      have r := hrow.app hb hb.size hown2 hg2 hat2
      rw [show (cellInts c (d.take j)).map (fun x => Value.int .i64 x) ++ [.int .i64 (x.toNat : Int)] = (cellInts c (d.take (j + 1))).map (fun x => Value.int .i64 x) by rw [HS.out]; simp] at r
      go_roundw
      case rel => exact ⟨j + 1, by omega, by go_num, r.1, r.2⟩
      case measure => simp [intOf]; omega
    · have hjn : j = n := by omega
      subst hjn
      have hfull : cellInts c (d.take j) = cellInts c d := by rw [List.take_of_length_le (by have := H.out.1; omega)]
      rw [hfull] at hrow
      clear hfull
      go_wp2_with fail
      refine (implKeyedHash_c _ _ (cellInts c d) _ (rd_rowI hrow.1 rfl) (by simp [cellInts, H.out.1]; omega)).mono ?_
      rintro e w3 ⟨rfl, b⟩
      go_wp2
      go_ret
      exact ⟨rfl, hb.trans (b.mono hb.size)⟩
end Go.Proofs.Ytokhogdocaeelaa
