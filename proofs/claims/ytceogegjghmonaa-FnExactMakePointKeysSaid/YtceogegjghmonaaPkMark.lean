/- The laws' marks over PointKey. -/
import Derived.Test.YtceogegjghmonaaPk
namespace Go.Proofs.Ytceogegjghmonaa
set_option linter.unusedVariables false
open Go.RowKit

def markC (k0 : Int) (n : Nat) : List Corr := (List.range n).map fun (i : Nat) => (k0 + 3 * (i : Int), k0 + 3 * (i : Int) + 1, k0 + 3 * (i : Int) + 1 + 1)
theorem markC_succ (k0 : Int) (n : Nat) : markC k0 (n + 1) = markC k0 n ++ [(k0 + 3 * (n : Int), k0 + 3 * (n : Int) + 1, k0 + 3 * (n : Int) + 1 + 1)] := by simp [markC, List.range_succ]
theorem markC_len (k0 : Int) (n : Nat) : (markC k0 n).length = n := by simp [markC]
theorem markC_get (k0 : Int) (n k : Nat) (h : k < n) : (markC k0 n)[k]? = some (k0 + 3 * (k : Int), k0 + 3 * (k : Int) + 1, k0 + 3 * (k : Int) + 1 + 1) := by simp [markC, h]
theorem markC_set (k0 : Int) (xs : List Corr) (k : Nat) (hk : k < xs.length) : (markC k0 k ++ xs.drop k).set k (k0 + 3 * (k : Int), k0 + 3 * (k : Int) + 1, k0 + 3 * (k : Int) + 1 + 1) = markC k0 (k + 1) ++ xs.drop (k + 1) := by
  rw [List.set_append, if_neg (by rw [markC_len]; omega), markC_len, Nat.sub_self, List.drop_eq_getElem_cons hk, List.set_cons_zero, markC_succ]
  simp
set_option maxHeartbeats 1000000 in
theorem markCorrS_c (lo hi : Nat) (v : Value) (xs : List Corr) (k0 : Int) (w : World) (h : Iv (OwnC 116) lo hi w v xs) (hk0 : 0 ≤ k0) (hk : k0 + 3 * (xs.length : Nat) ≤ 4611686018427387904) :
    Calls Try.prog 117 #[v, .int .i64 k0] w fun e w' => e = .returned (.int .i64 (k0 + 3 * (xs.length : Nat))) ∧ Iv (OwnC 116) lo hi w' v (markC k0 xs.length) ∧ Chg lo hi w w' := by
  have h' := h
  obtain ⟨F, ⟨hown0, rfl⟩, _, hF⟩ := h'
  obtain ⟨n, hn⟩ : ∃ n, xs.length = n := ⟨_, rfl⟩
  have hshape := hown0.2
  rw [hn] at hown0 hk hshape ⊢
  rcases hshape with ⟨rfl, h0⟩ | ⟨g, cap, cur, rfl, _, _, hnc, hcm, _, _⟩
  · subst h0
    obtain rfl := List.eq_nil_of_length_eq_zero hn
    go_enter Try.func117, Try.ntmps117
    go_wp2
    refine wp_loop_rounds 1 ?_
    rw [rounds_succ]
    go_wp2
    go_ret
    exact ⟨ret_int (by simp), by simpa [markC] using h, Chg.refl _ _ _⟩
  · have hlo := (hF g (by simp [Value.ownBlock])).1
    have hhi := (hF g (by simp [Value.ownBlock])).2
    unfold maxLen at hcm
    have HH := Lib.hid hown0
    have HN := Lib.hid hn
    clear hown0 hn h hF
    go_enter Try.func117, Try.ntmps117
    go_wp2
    go_loopw [1, 5] (fun kk i wr => ∃ k : Nat, k ≤ n ∧ i = .int .i64 k ∧ kk = .int .i64 (k0 + 3 * (k : Int)) ∧ Hid (wr.ownsRow 0 116 3 (.slice (some ⟨g, 0, none⟩) n cap) n (cellsC (markC k0 k ++ xs.drop k))) ∧ Chg lo hi w wr) (fun _ i _ => n - (intOf i).toNat)
    case atStart => exact ⟨0, Nat.zero_le _, rfl, by go_num, Lib.hid (by simpa [markC] using HH.out), Chg.refl _ _ _⟩
    case round =>
      obtain ⟨k, hk', rfl, rfl, hown, hb⟩ := hrel
      by_cases hlt : k < n
      · obtain ⟨y, hy⟩ : ∃ y, xs[k]? = some y := ⟨_, List.getElem?_eq_getElem (by have := HN.out; omega)⟩
        have hz : (markC k0 k ++ xs.drop k)[k]? = some y := by
          rw [List.getElem?_append_right (by rw [markC_len]; exact Nat.le_refl _), markC_len, Nat.sub_self, List.getElem?_drop]
          simpa using hy
        obtain ⟨z0, z1, z2⟩ := cellsC_get _ _ _ hz
        have e0 := (hown.out.cellAt (k * 3) (by omega)).trans z0
        have e1 := (hown.out.cellAt (k * 3 + 1) (by omega)).trans z1
        have e2 := (hown.out.cellAt (k * 3 + 2) (by omega)).trans z2
        have f0 := hown.out.frozenAt (k * 3)
        have f1 := hown.out.frozenAt (k * 3 + 1)
        have f2 := hown.out.frozenAt (k * 3 + 2)
        have hb3 := ((hb.setCell (p := ⟨g, k * 3, none⟩) hlo hhi (.int .i64 (k0 + 3 * (k : Int)))).setCell (p := ⟨g, k * 3 + 1, none⟩) hlo hhi (.int .i64 (k0 + 3 * (k : Int) + 1))).setCell (p := ⟨g, k * 3 + 2, none⟩) hlo hhi (.int .i64 (k0 + 3 * (k : Int) + 1 + 1))
        have st := ownC_stored hown.out k (k0 + 3 * (k : Int), k0 + 3 * (k : Int) + 1, k0 + 3 * (k : Int) + 1 + 1) (by have := HN.out; rw [List.length_append, markC_len, List.length_drop]; omega)
        rw [markC_set k0 xs k (by have := HN.out; omega)] at st
        have ST := Lib.hid st
        have HB3 := Lib.hid hb3
        clear hy hz z0 z1 z2 st hb3
        go_wp2
        go_roundw
        case rel => exact ⟨k + 1, by omega, by go_num, by go_num, ST, HB3.out⟩
        case measure => simp [intOf]; omega
      · go_wp2
        go_ret
        have hkn : k = n := by omega
        subst hkn
        have ho := hown.out
        rw [List.drop_of_length_le (by have := HN.out; omega), List.append_nil] at ho
        exact ⟨rfl, ⟨[g], ⟨by rw [markC_len]; exact ho, rfl⟩, by simp, fun b hb' => by simp at hb'; subst hb'; exact ⟨hlo, hhi⟩⟩, hb⟩
set_option maxHeartbeats 1000000 in
theorem mark_pk (lo hi : Nat) (m r : Int) (v : Value) (xs : List Corr) (k0 : Int) (w : World) (h : Iv (OwnC 116) lo hi w v xs) (hk0 : 0 ≤ k0) (hk : k0 + 3 * (xs.length : Nat) ≤ 4611686018427387904) :
    Calls Try.prog 54 #[.agg #[.int .i64 m, .int .i64 r, v], .int .i64 k0] w fun e w' => e = .returned (.int .i64 (k0 + 3 * (xs.length : Nat))) ∧ Iv (OwnC 116) lo hi w' v (markC k0 xs.length) ∧ Chg lo hi w w' := by
  obtain ⟨A, l, c, rfl, q⟩ := rd_pk h
  clear q
  go_enter Try.func54, Try.ntmps54
  go_wp2_with fail
  have b0 := below_alloc w (.cells #[.int .i64 m, .int .i64 r, .slice A l c] 63)
  refine (markCorrS_c lo hi _ xs _ _ (h.below OwnC_good b0) hk0 hk).mono ?_
  rintro e w1 ⟨rfl, f, ch⟩
  go_wp2
  go_ret
  exact ⟨rfl, f, (Chg.of_below b0).trans ch⟩
set_option maxHeartbeats 1000000 in
theorem heldCorrS_c (v : Value) (n : Nat) (k0 : Int) (w : World) (h : RdC w v (markC k0 n)) (hk0 : 0 ≤ k0) (hk : k0 + 3 * (n : Nat) ≤ 4611686018427387904) :
    Calls Try.prog 118 #[v, .int .i64 k0] w fun e w' => e = .returned (.int .i64 (k0 + 3 * (n : Nat))) ∧ Below w.heap.size w w' := by
  obtain ⟨A, n', c, rfl, h'⟩ := h
  obtain rfl : n = n' := by have := h'.1; rw [markC_len] at this; exact this
  have hcm := h'.2.2.1
  have hnc := h'.2.1
  unfold maxLen at hcm
  have H : Hid (RdC w (.slice A n c) (markC k0 n)) := Lib.hid ⟨_, _, _, rfl, h'⟩
  clear h'
  go_enter Try.func118, Try.ntmps118
  go_wp2
  go_loopw [1, 5] (fun kk i wr => ∃ k : Nat, k ≤ n ∧ i = .int .i64 k ∧ kk = .int .i64 (k0 + 3 * (k : Int)) ∧ Below w.heap.size w wr) (fun _ i _ => n - (intOf i).toNat)
  case atStart => exact ⟨0, Nat.zero_le _, rfl, by go_num, Below.refl _ _⟩
  case round =>
    obtain ⟨k, hk', rfl, rfl, hb⟩ := hrel
    by_cases hlt : k < n
    · obtain ⟨b, off, x, rfl, hbb, hx, u0, u1, u2⟩ := H.out.at_ hlt
      rw [markC_get k0 n k hlt] at hx
      injection hx with hx
      subst hx
      have g0 := (hb.cell (p := ⟨b, off + k * 3, none⟩) hbb).trans u0
      have g1 := (hb.cell (p := ⟨b, off + k * 3 + 1, none⟩) hbb).trans u1
      have g2 := (hb.cell (p := ⟨b, off + k * 3 + 2, none⟩) hbb).trans u2
      clear u0 u1 u2
      go_wp2
      go_roundw
      case rel => exact ⟨k + 1, by omega, by go_num, by go_num, hb⟩
      case measure => simp [intOf]; omega
    · go_wp2
      go_ret
      have hkn : k = n := by omega
      subst hkn
      exact ⟨rfl, hb⟩
set_option maxHeartbeats 1000000 in
theorem held_pk (m r : Int) (v : Value) (xs : List Corr) (k0 : Int) (w : World) (h : RdC w v (markC k0 xs.length)) (hk0 : 0 ≤ k0) (hk : k0 + 3 * (xs.length : Nat) ≤ 4611686018427387904) :
    Calls Try.prog 55 #[.agg #[.int .i64 m, .int .i64 r, v], .int .i64 k0] w fun e w' => e = .returned (.int .i64 (k0 + 3 * (xs.length : Nat))) ∧ Below w.heap.size w w' := by
  obtain ⟨A, l, c, rfl, h'⟩ := h
  have h : RdC w (.slice A l c) (markC k0 xs.length) := ⟨_, _, _, rfl, h'⟩
  clear h'
  go_enter Try.func55, Try.ntmps55
  go_wp2_with fail
  have b0 := below_alloc w (.cells #[.int .i64 m, .int .i64 r, .slice A l c] 63)
  refine (heldCorrS_c _ xs.length _ _ (RdC_reads _ _ _ _ h b0) hk0 hk).mono ?_
  rintro e w1 ⟨rfl, b⟩
  go_wp2
  go_ret
  exact ⟨rfl, b0.trans (b.mono (by simp))⟩
end Go.Proofs.Ytceogegjghmonaa
