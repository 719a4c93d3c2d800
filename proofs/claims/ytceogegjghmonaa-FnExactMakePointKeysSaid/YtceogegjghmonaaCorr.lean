/- Slices of Correction: words, and the contracts of the laws' helpers over them and over PointKey. -/
import Derived.Test.YtceogegjghmonaaFlat
import Derived.Test.YtceogegjghmonaaOpen
import Derived.Deep.RegionHeld3
namespace Go.Proofs.Ytceogegjghmonaa
set_option linter.unusedVariables false
open Go.RowKit

abbrev Corr := Int × Int × Int

/-- A slice of corrections, three cells each. -/
def RdC : Rel (List Corr) := fun w v xs => ∃ A n c, v = .slice A n c ∧ xs.length = n ∧ n ≤ c ∧ c ≤ maxLen ∧
  (0 < n → ∃ b off, A = some ⟨b, off, none⟩ ∧ b < w.heap.size ∧ ∀ (j : Nat) (x : Corr), xs[j]? = some x → w.cell? ⟨b, off + j * 3, none⟩ = some (.int .i64 x.1) ∧ w.cell? ⟨b, off + j * 3 + 1, none⟩ = some (.int .i64 x.2.1) ∧ w.cell? ⟨b, off + j * 3 + 2, none⟩ = some (.int .i64 x.2.2))

def cellsC (xs : List Corr) : List Value := xs.flatMap fun x => [.int .i64 x.1, .int .i64 x.2.1, .int .i64 x.2.2]

def OwnC (E : TypeId) : FRel (List Corr) := fun w v xs F => w.ownsRow 0 E 3 v xs.length (cellsC xs) ∧ F = v.ownBlock.toList

theorem cellsC_len (xs : List Corr) : (cellsC xs).length = xs.length * 3 := by
  induction xs with
  | nil => rfl
  | cons x xs ih => simp [cellsC] at ih ⊢; omega
theorem cellsC_append (xs ys : List Corr) : cellsC (xs ++ ys) = cellsC xs ++ cellsC ys := by simp [cellsC]
theorem cellsC_get (xs : List Corr) (j : Nat) (x : Corr) (h : xs[j]? = some x) : (cellsC xs)[j * 3]? = some (.int .i64 x.1) ∧ (cellsC xs)[j * 3 + 1]? = some (.int .i64 x.2.1) ∧ (cellsC xs)[j * 3 + 2]? = some (.int .i64 x.2.2) := by
  induction xs generalizing j with
  | nil => simp at h
  | cons y ys ih =>
    cases j with
    | zero => simp at h; subst h; simp [cellsC]
    | succ j =>
      simp at h
      have := ih j h
      have e : cellsC (y :: ys) = [.int .i64 y.1, .int .i64 y.2.1, .int .i64 y.2.2] ++ cellsC ys := rfl
      rw [e]
      refine ⟨?_, ?_, ?_⟩
      · rw [List.getElem?_append_right (by simp; omega)]; simpa [Nat.add_mul, Nat.add_sub_cancel] using this.1
      · rw [List.getElem?_append_right (by simp; omega)]; rw [show (j + 1) * 3 + 1 - [Value.int .i64 y.1, .int .i64 y.2.1, .int .i64 y.2.2].length = j * 3 + 1 by simp; omega]; exact this.2.1
      · rw [List.getElem?_append_right (by simp; omega)]; rw [show (j + 1) * 3 + 2 - [Value.int .i64 y.1, .int .i64 y.2.1, .int .i64 y.2.2].length = j * 3 + 2 by simp; omega]; exact this.2.2

theorem RdC_reads : Reads RdC := by
  rintro w w' v xs ⟨A, n, c, hv, h1, h2, h3, h4⟩ hb
  refine ⟨A, n, c, hv, h1, h2, h3, fun hn => ?_⟩
  obtain ⟨b, off, hA, hlt, hc⟩ := h4 hn
  refine ⟨b, off, hA, Nat.lt_of_lt_of_le hlt hb.size, fun j x hx => ?_⟩
  obtain ⟨u0, u1, u2⟩ := hc j x hx
  exact ⟨(hb.cell (p := ⟨b, off + j * 3, none⟩) hlt).trans u0, (hb.cell (p := ⟨b, off + j * 3 + 1, none⟩) hlt).trans u1, (hb.cell (p := ⟨b, off + j * 3 + 2, none⟩) hlt).trans u2⟩

theorem OwnC_good {E : TypeId} : Good (OwnC E) where
  stab := by
    rintro w w' v x F ⟨h1, rfl⟩ hk
    refine ⟨?_, rfl⟩
    obtain ⟨h3, h2⟩ := h1
    refine ⟨h3, ?_⟩
    rcases h2 with h2 | ⟨g, cap, cur, rfl, hb, hg, r⟩
    · exact .inl h2
    · exact .inr ⟨g, cap, cur, rfl, hb, by rw [hk g (by simp [Value.ownBlock])]; exact hg, r⟩
  lt := by
    rintro w v x F ⟨h1, rfl⟩ b hb
    exact (h1.lt b (by simpa using hb)).2
  one := by
    rintro w v x F ⟨h1, rfl⟩
    rcases h1.2 with ⟨rfl, _⟩ | ⟨g, cap, cur, rfl, _⟩ <;> rfl

theorem OwnC_rd {E : TypeId} {w : World} {v : Value} {xs : List Corr} {F : List Nat} (h : OwnC E w v xs F) : RdC w v xs := by
  obtain ⟨h1, _⟩ := h
  have hlt := h1.lt
  rcases h1.2 with ⟨rfl, h0⟩ | ⟨g, cap, cur, rfl, _, hg, hn, hc, hs, ht⟩
  · exact ⟨none, 0, 0, rfl, by omega, Nat.le_refl _, by simp [maxLen], fun h => by omega⟩
  · refine ⟨some ⟨g, 0, none⟩, xs.length, cap, rfl, rfl, hn, hc, fun _ => ⟨g, 0, rfl, (hlt g rfl).2, fun j x hx => ?_⟩⟩
    have hj : j < xs.length := (List.getElem?_eq_some_iff.1 hx).1
    obtain ⟨a, b, c⟩ := cellsC_get xs j x hx
    have e0 := h1.cellAt (j * 3) (by omega)
    have e1 := h1.cellAt (j * 3 + 1) (by omega)
    have e2 := h1.cellAt (j * 3 + 2) (by omega)
    simp only [Nat.zero_add]
    exact ⟨e0.trans a, e1.trans b, e2.trans c⟩

theorem rd_pk {E : TypeId} {lo hi : Nat} {w : World} {v : Value} {xs : List Corr} (h : Iv (OwnC E) lo hi w v xs) : RdC w v xs := by
  obtain ⟨F, h1, _, _⟩ := h
  exact OwnC_rd h1

theorem RdC.at_ {w : World} {A : Option Addr} {n c : Nat} {xs : List Corr} (h : RdC w (.slice A n c) xs) {k : Nat} (hk : k < n) :
    ∃ b off x, A = some ⟨b, off, none⟩ ∧ b < w.heap.size ∧ xs[k]? = some x ∧ w.cell? ⟨b, off + k * 3, none⟩ = some (.int .i64 x.1) ∧ w.cell? ⟨b, off + k * 3 + 1, none⟩ = some (.int .i64 x.2.1) ∧ w.cell? ⟨b, off + k * 3 + 2, none⟩ = some (.int .i64 x.2.2) := by
  obtain ⟨A', n', c', e, h1, h2, h3, h4⟩ := h
  injection e with e1 e2 e3
  subst e1 e2 e3
  obtain ⟨b, off, hA, hb, hc⟩ := h4 (by omega)
  have hl : k < xs.length := by omega
  obtain ⟨u0, u1, u2⟩ := hc k _ (List.getElem?_eq_getElem hl)
  exact ⟨b, off, xs[k], hA, hb, List.getElem?_eq_getElem hl, u0, u1, u2⟩

theorem RdC.hd {w : World} {A : Option Addr} {n c : Nat} {xs : List Corr} (h : RdC w (.slice A n c) xs) : xs.length = n ∧ n ≤ c ∧ c ≤ maxLen := by
  obtain ⟨A', n', c', e, h1, h2, h3, _⟩ := h
  injection e with e1 e2 e3
  subst e1 e2 e3
  exact ⟨h1, h2, h3⟩

set_option maxHeartbeats 1000000 in
theorem eqCorr_c (a b c : Int) (w : World) : Calls Try.prog 150 #[.agg #[.int .i64 a, .int .i64 b, .int .i64 c], .agg #[.int .i64 a, .int .i64 b, .int .i64 c]] w fun e w' => e = .returned (.bool true) ∧ Below w.heap.size w w' := by
  go_enter Try.func150, Try.ntmps150
  go_wp2
  go_ret
  exact ⟨rfl, by (repeat (first | exact Below.refl _ _ | refine Below.alloc ?_ (by simp; try omega) _ | refine Below.setCell ?_ (by simp; try omega) _))⟩

set_option maxHeartbeats 1000000 in
theorem eqCorrS_c (v1 v2 : Value) (xs : List Corr) (w : World) (h1 : RdC w v1 xs) (h2 : RdC w v2 xs) :
    Calls Try.prog 116 #[v1, v2] w fun e w' => e = .returned (.bool true) ∧ Below w.heap.size w w' := by
  obtain ⟨A, n, c, rfl, h⟩ := h1
  obtain ⟨B, m, d, rfl, h'⟩ := h2
  obtain rfl : n = m := h.1.symm.trans h'.1
  have hcm := h.2.2.1
  have hnc := h.2.1
  unfold maxLen at hcm
  have H : Hid (RdC w (.slice A n c) xs) := Lib.hid ⟨_, _, _, rfl, h⟩
  have H' : Hid (RdC w (.slice B n d) xs) := Lib.hid ⟨_, _, _, rfl, h'⟩
  clear h h'
  go_enter Try.func116, Try.ntmps116
  go_wp2
  go_loopw [5] (fun i wr => ∃ k : Nat, k ≤ n ∧ i = .int .i64 k ∧ Below w.heap.size w wr) (fun i _ => n - (intOf i).toNat)
  case atStart => exact ⟨0, Nat.zero_le _, rfl, Below.refl _ _⟩
  case round =>
    obtain ⟨k, hk, rfl, hb⟩ := hrel
    by_cases hlt : k < n
    · obtain ⟨b, off, x, rfl, hbb, hx, u0, u1, u2⟩ := H.out.at_ hlt
      obtain ⟨b', off', x', rfl, hbb', hx', v0, v1, v2⟩ := H'.out.at_ hlt
      obtain rfl : x = x' := by rw [hx] at hx'; injection hx'
      have g0 := (hb.cell (p := ⟨b, off + k * 3, none⟩) hbb).trans u0
      have g1 := (hb.cell (p := ⟨b, off + k * 3 + 1, none⟩) hbb).trans u1
      have g2 := (hb.cell (p := ⟨b, off + k * 3 + 2, none⟩) hbb).trans u2
      have g3 := (hb.cell (p := ⟨b', off' + k * 3, none⟩) hbb').trans v0
      have g4 := (hb.cell (p := ⟨b', off' + k * 3 + 1, none⟩) hbb').trans v1
      have g5 := (hb.cell (p := ⟨b', off' + k * 3 + 2, none⟩) hbb').trans v2
      have hk0 : (0 : Int) ≤ (k : Int) := by omega
      have hkn : (k : Int) < (n : Int) := by omega
      clear u0 u1 u2 v0 v1 v2 hx hx'
      obtain ⟨x0, x1, x2⟩ := x
      go_wp2_with fail
      go_region_held3 (fun w' => w'.cell? ⟨b, off + k * 3, none⟩ = some (.int .i64 x0) ∧ w'.cell? ⟨b, off + k * 3 + 1, none⟩ = some (.int .i64 x1) ∧ w'.cell? ⟨b, off + k * 3 + 2, none⟩ = some (.int .i64 x2) ∧
          w'.cell? ⟨b', off' + k * 3, none⟩ = some (.int .i64 x0) ∧ w'.cell? ⟨b', off' + k * 3 + 1, none⟩ = some (.int .i64 x1) ∧ w'.cell? ⟨b', off' + k * 3 + 2, none⟩ = some (.int .i64 x2))
        (first | go_keep | (exact ⟨(bb.cell (p := ⟨b, off + k * 3, none⟩) (Nat.lt_of_lt_of_le hbb hb.size)).trans g0, (bb.cell (p := ⟨b, off + k * 3 + 1, none⟩) (Nat.lt_of_lt_of_le hbb hb.size)).trans g1, (bb.cell (p := ⟨b, off + k * 3 + 2, none⟩) (Nat.lt_of_lt_of_le hbb hb.size)).trans g2, (bb.cell (p := ⟨b', off' + k * 3, none⟩) (Nat.lt_of_lt_of_le hbb' hb.size)).trans g3, (bb.cell (p := ⟨b', off' + k * 3 + 1, none⟩) (Nat.lt_of_lt_of_le hbb' hb.size)).trans g4, (bb.cell (p := ⟨b', off' + k * 3 + 2, none⟩) (Nat.lt_of_lt_of_le hbb' hb.size)).trans g5⟩))
        (first | (go_at_call 150; refine (eqCorr_c _ _ _ _).mono ?_; rintro e w1 ⟨rfl, bb⟩))
      go_wp2
      go_roundw
      case rel => exact ⟨k + 1, by omega, by go_num, hb.drew.trans (bb.mono hb.size)⟩
      case measure => simp [intOf]; omega
    · go_wp2
      go_ret
      exact ⟨rfl, hb⟩
theorem elC_info : (Try.prog.info? 116).map (fun i => (i.zero, i.size, i.bytes)) = some (some (.agg #[.int .i64 0, .int .i64 0, .int .i64 0]), 3, 24) := by kernel_rfl

theorem run_mkC (n : Nat) (hn : n ≤ 1099511627776) (w : World) :
    (Instr.makeSlice 61 (.int .i64 (n : Int)) (.int .i64 (n : Int))).run Try.prog w = .ok (.slice (some ⟨w.heap.size, 0, none⟩) n n) (w.alloc (.cells (madeCells #[.int .i64 0, .int .i64 0, .int .i64 0] (n * 3)) 116)) := by
  obtain ⟨i, hi, hzz⟩ := Option.map_eq_some_iff.1 elC_info
  simp only [Prod.mk.injEq] at hzz
  obtain ⟨hz, hs, hb⟩ := hzz
  have hr := run_make (P := Try.prog) w 61 116 i _ Try.underlying61 hi hz .i64 .i64 (n : Int) (n : Int) (by omega) (by omega) (by rw [hb]; omega) (by omega)
  simp only [Int.toNat_natCast, hs] at hr
  exact hr

theorem cellsC_rep (n : Nat) : (madeCells #[.int .i64 0, .int .i64 0, .int .i64 0] (n * 3)).toList = cellsC (List.replicate n (0, 0, 0)) := by
  apply List.ext_getElem?
  intro j
  by_cases hj : j < n * 3
  · have h1 : j / 3 < n := by omega
    have hg : (List.replicate n ((0, 0, 0) : Corr))[j / 3]? = some (0, 0, 0) := by simp [h1]
    obtain ⟨a, b, c⟩ := cellsC_get _ _ _ hg
    have e : j = j / 3 * 3 ∨ j = j / 3 * 3 + 1 ∨ j = j / 3 * 3 + 2 := by omega
    have hm : (madeCells #[.int .i64 0, .int .i64 0, .int .i64 0] (n * 3)).toList[j]? = some (.int .i64 0) := by
      have h3 : j % 3 = 0 ∨ j % 3 = 1 ∨ j % 3 = 2 := by omega
      have hr : (Array.range (n * 3))[j]? = some j := by simp [hj]
      simp only [madeCells, Array.getElem?_toList, Array.getElem?_map, hr, Option.map_some]
      rcases h3 with h3 | h3 | h3
      · simp [h3]
      · simp [h3]
      · simp [h3]
    rw [hm]
    rcases e with e | e | e
    · rw [e, a]
    · rw [e, b]
    · rw [e, c]
  · rw [List.getElem?_eq_none (by simp [size_madeCells]; omega), List.getElem?_eq_none (by rw [cellsC_len]; simp; omega)]

theorem cellsC_set (xs : List Corr) (j : Nat) (x : Corr) (hj : j < xs.length) :
    (((cellsC xs).set (j * 3) (.int .i64 x.1)).set (j * 3 + 1) (.int .i64 x.2.1)).set (j * 3 + 2) (.int .i64 x.2.2) = cellsC (xs.set j x) := by
  induction xs generalizing j with
  | nil => simp at hj
  | cons y ys ih =>
    cases j with
    | zero => simp [cellsC]
    | succ j =>
      simp at hj
      have := ih j hj
      simp only [cellsC, List.flatMap_cons, List.set_cons_succ, List.cons_append, List.nil_append, Nat.add_mul, Nat.one_mul, show j * 3 + 3 + 1 = j * 3 + 1 + 3 by omega, show j * 3 + 3 + 2 = j * 3 + 2 + 3 by omega] at this ⊢
      rw [this]

set_option maxHeartbeats 1000000 in
theorem toCorr_c (a b c : Int) (w : World) : Calls Try.prog 152 #[.agg #[.int .i64 a, .int .i64 b, .int .i64 c]] w fun e w' => e = .returned (.agg #[.int .i64 a, .int .i64 b, .int .i64 c]) ∧ Below w.heap.size w w' := by
  go_enter Try.func152, Try.ntmps152
  go_wp2
  refine bodyPost_ret (v := .agg #[.int .i64 a, .int .i64 b, .int .i64 c]) (by simp [results, Try.results152, go_sem]) rfl ⟨rfl, by (repeat (first | exact Below.refl _ _ | refine Below.alloc ?_ (by simp; try omega) _ | refine Below.setCell ?_ (by simp; try omega) _))⟩

theorem ownC_made (w : World) (n : Nat) (h : n ≤ maxLen) : (w.alloc (.cells (madeCells #[.int .i64 0, .int .i64 0, .int .i64 0] (n * 3)) 116)).ownsRow 0 116 3 (.slice (some ⟨w.heap.size, 0, none⟩) n n) n (cellsC (List.replicate n (0, 0, 0))) := by
  have := World.ownsRow_lit (base := 0) (e := 116) (size := 3) w (madeCells #[.int .i64 0, .int .i64 0, .int .i64 0] (n * 3)) n (Nat.zero_le _) h (by simp [size_madeCells])
  rwa [cellsC_rep] at this

/-- A whole correction stored at index j. -/
theorem ownC_stored {w : World} {g n cap : Nat} {xs : List Corr} (h : w.ownsRow 0 116 3 (.slice (some ⟨g, 0, none⟩) n cap) n (cellsC xs)) (j : Nat) (x : Corr) (hj : j < xs.length) :
    (((w.setCell ⟨g, j * 3, none⟩ (.int .i64 x.1)).setCell ⟨g, j * 3 + 1, none⟩ (.int .i64 x.2.1)).setCell ⟨g, j * 3 + 2, none⟩ (.int .i64 x.2.2)).ownsRow 0 116 3 (.slice (some ⟨g, 0, none⟩) n cap) n (cellsC (xs.set j x)) := by
  rw [← cellsC_set xs j x hj]
  exact (((h.stored (j * 3) _).1.stored (j * 3 + 1) _).1.stored (j * 3 + 2) _).1

set_option maxHeartbeats 1000000 in
theorem toCorrS_c (v : Value) (xs : List Corr) (w : World) (h : RdC w v xs) (hn : xs.length ≤ 1099511627776) :
    Calls Try.prog 122 #[v] w fun e w' => ∃ v', e = .returned v' ∧ Fresh (OwnC 116) w w' v' xs := by
  obtain ⟨A, n, c, rfl, h⟩ := h
  have hnn : n ≤ 1099511627776 := h.1 ▸ hn
  have hmk := run_mkC n hnn
  have H : Hid (RdC w (.slice A n c) xs) := Lib.hid ⟨_, _, _, rfl, h⟩
  have HL := Lib.hid h.1
  clear h hn
  go_enter Try.func122, Try.ntmps122
  go_wp2
  go_loopw [4] (fun i wr => ∃ k : Nat, k ≤ n ∧ i = .int .i64 k ∧ Hid (wr.ownsRow 0 116 3 (.slice (some ⟨w.heap.size, 0, none⟩) n n) n (cellsC (xs.take k ++ List.replicate (n - k) (0, 0, 0)))) ∧ Below w.heap.size w wr ∧ w.heap.size < wr.heap.size) (fun i _ => n - (intOf i).toNat)
  case atStart => exact ⟨0, Nat.zero_le _, rfl, Lib.hid (by simpa using ownC_made w n (by simp only [maxLen]; omega)), below_alloc w _, by simp⟩
  case round =>
    obtain ⟨k, hk, rfl, hown, hb, hsz⟩ := hrel
    by_cases hlt : k < n
    · obtain ⟨b, off, x, rfl, hbb, hx, u0, u1, u2⟩ := H.out.at_ hlt
      obtain ⟨x0, x1, x2⟩ := x
      have g0 := (hb.cell (p := ⟨b, off + k * 3, none⟩) hbb).trans u0
      have g1 := (hb.cell (p := ⟨b, off + k * 3 + 1, none⟩) hbb).trans u1
      have g2 := (hb.cell (p := ⟨b, off + k * 3 + 2, none⟩) hbb).trans u2
      have HX := Lib.hid hx
      clear u0 u1 u2 hx hmk
      go_wp2_with fail
      refine (toCorr_c _ _ _ _).mono ?_
      rintro e w1 ⟨rfl, bb⟩
      have hown1 : w1.ownsRow 0 116 3 (.slice (some ⟨w.heap.size, 0, none⟩) n n) n (cellsC (xs.take k ++ List.replicate (n - k) (0, 0, 0))) := by
        have hg := hown.out
        exact ((OwnC_good (E := 116)).stab (F := [w.heap.size]) (v := .slice (some ⟨w.heap.size, 0, none⟩) n n) (x := xs.take k ++ List.replicate (n - k) (0, 0, 0)) ⟨by simpa [HL.out, Nat.min_eq_left hk, Nat.add_sub_cancel' hk] using hg, rfl⟩ (fun b hb' => by simp at hb'; subst hb'; exact bb.block _ hsz)).1 |> fun q => by simpa [HL.out, Nat.min_eq_left hk, Nat.add_sub_cancel' hk] using q
      have e0 := hown1.cellAt (k * 3) (by omega)
      have e1 := hown1.cellAt (k * 3 + 1) (by omega)
      have e2 := hown1.cellAt (k * 3 + 2) (by omega)
      have hz : (xs.take k ++ List.replicate (n - k) ((0, 0, 0) : Corr))[k]? = some (0, 0, 0) := by
        have := HL.out
        rw [List.getElem?_append_right (by simp; omega)]
        simp [this, Nat.min_eq_left hk, List.getElem?_replicate]; omega
      obtain ⟨z0, z1, z2⟩ := cellsC_get _ _ _ hz
      rw [z0] at e0
      rw [z1] at e1
      rw [z2] at e2
      have f0 := hown1.frozenAt (k * 3)
      have f1 := hown1.frozenAt (k * 3 + 1)
      have f2 := hown1.frozenAt (k * 3 + 2)
      have HO := Lib.hid hown1
      have hbw := hb.trans (bb.mono hb.size)
      have hs1 := Nat.lt_of_lt_of_le hsz bb.size
      clear hz z0 z1 z2 hown1 g0 g1 g2
      go_wp2
      have st := ownC_stored HO.out k (x0, x1, x2) (by have := HL.out; simp; omega)
      have es : (xs.take k ++ List.replicate (n - k) ((0, 0, 0) : Corr)).set k (x0, x1, x2) = xs.take (k + 1) ++ List.replicate (n - (k + 1)) (0, 0, 0) := by
        have := set_take_rep (fun x => x) ((0, 0, 0) : Corr) xs n k HL.out hlt (x0, x1, x2) HX.out
        simpa using this
      rw [es] at st
      go_roundw
      case rel => exact ⟨k + 1, by omega, by go_num, st, ((hbw.setCell (by simp) _).setCell (by simp) _).setCell (by simp) _, by simpa using hs1⟩
      case measure => simp [intOf]; omega
    · go_wp2
      go_ret
      have hkn : k = n := by omega
      subst hkn
      have ho := hown.out
      rw [Nat.sub_self, List.replicate_zero, List.append_nil, List.take_of_length_le (by have := HL.out; omega)] at ho
      have hl := HL.out
      subst hl
      exact ⟨_, rfl, [w.heap.size], ⟨ho, rfl⟩, by simp, by simp, hb⟩
set_option maxHeartbeats 1000000 in
theorem szCorrS_c (v : Value) (x : List Corr) (l : Int) (w : World) (h : RdC w v x) (hl : 0 ≤ l) (hl' : l ≤ 9223372036854775807) :
    Calls Try.prog 119 #[v, .int .i64 l] w fun e w' => e = .returned (.int .i64 (if l < x.length then -1 else l - x.length)) ∧ w = w' := by
  obtain ⟨A, n, c, rfl, h1, h2, h3, _⟩ := h
  obtain rfl := h1
  unfold maxLen at h3
  by_cases hc : l < x.length
  · rw [if_pos hc]
    go_enter Try.func119, Try.ntmps119
    go_wp2
    go_ret
    exact ⟨rfl, rfl⟩
  · rw [if_neg hc]
    go_enter Try.func119, Try.ntmps119
    go_wp2
    go_ret
    exact ⟨rfl, rfl⟩
end Go.Proofs.Ytceogegjghmonaa
