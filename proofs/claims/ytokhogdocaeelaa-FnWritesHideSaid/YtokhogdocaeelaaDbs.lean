/- Contracts of the laws' helpers over []Database: copies, equality, sizes, marks. -/
import Derived.Test.YtokhogdocaeelaaDb
import Derived.Test.YtokhogdocaeelaaNestFns
namespace Go.Proofs.Ytokhogdocaeelaa
set_option linter.unusedVariables false
open Go.RowKit

def ODB : FRel (List (List (List UInt8))) := Own 31 OBB
theorem ODB_good : Good ODB := Own_good OBB_good
theorem own_rdBB {w : World} {v : Value} {x : List (List UInt8)} {G : List Nat} (h : OBB w v x G) : Rd (Rd RB) w v x := h.rd (fun q => q.rd (fun k => k.rb))
theorem own_rdDB {w : World} {v : Value} {x : List (List (List UInt8))} {G : List Nat} (h : ODB w v x G) : Rd (Rd (Rd RB)) w v x := h.rd own_rdBB
theorem rd_dbs {lo hi : Nat} {w : World} {v : Value} {xs : List (List (List UInt8))} (h : Iv ODB lo hi w v xs) : Rd (Rd (Rd RB)) w v xs := Iv.rd (E := 31) (R := OBB) h own_rdBB
def sumF {α : Type} (f : α → Nat) (l : List α) : Nat := (l.map f).sum
theorem sumF_take_succ {α : Type} (f : α → Nat) (l : List α) (k : Nat) (x : α) (h : l[k]? = some x) : sumF f (l.take (k + 1)) = sumF f (l.take k) + f x := by
  rw [take_succ_get l k x h]
  simp [sumF]
theorem sumF_take_le {α : Type} (f : α → Nat) (l : List α) (k : Nat) : sumF f (l.take k) ≤ sumF f l := by
  conv => rhs; rw [← List.take_append_drop k l]
  simp only [sumF, List.map_append, List.sum_append]
  omega
theorem get_le_sumF {α : Type} (f : α → Nat) (l : List α) (k : Nat) (x : α) (h : l[k]? = some x) : f x ≤ sumF f l := by
  have h1 := sumF_take_succ f l k x h
  have h2 := sumF_take_le f l (k + 1)
  omega
/-- All cells of a list of databases, and with the slices themselves. -/
def sumD (l : List (List (List UInt8))) : Nat := sumF sumL l
def sumT (l : List (List (List UInt8))) : Nat := sumF tot l
def totD (l : List (List (List UInt8))) : Nat := l.length + sumT l
theorem sumD_take_succ (l : List (List (List UInt8))) (k : Nat) (x : List (List UInt8)) (h : l[k]? = some x) : sumD (l.take (k + 1)) = sumD (l.take k) + sumL x := sumF_take_succ sumL l k x h
theorem sumD_take_le (l : List (List (List UInt8))) (k : Nat) : sumD (l.take k) ≤ sumD l := sumF_take_le sumL l k
theorem sumD_le_T (l : List (List (List UInt8))) : sumD l ≤ sumT l := by
  unfold sumD sumT sumF
  induction l with
  | nil => simp
  | cons x l ih =>
    have := sumL_le x
    simp at *
    omega
theorem sumD_le_tot (l : List (List (List UInt8))) : sumD l ≤ totD l := by
  have := sumD_le_T l
  unfold totD
  omega
theorem len_le_totD (l : List (List (List UInt8))) : l.length ≤ totD l := by unfold totD; omega
theorem get_le_totD (l : List (List (List UInt8))) (k : Nat) (x : List (List UInt8)) (h : l[k]? = some x) : tot x ≤ totD l := by
  have := get_le_sumF tot l k x h
  unfold totD sumT
  omega
def markDD : Int → List (List (List UInt8)) → List (List (List UInt8))
  | _, [] => []
  | k, d :: ds => markBB k d :: markDD (k + (sumL d : Nat)) ds
theorem markDD_snoc (k : Int) (l : List (List (List UInt8))) (x : List (List UInt8)) : markDD k (l ++ [x]) = markDD k l ++ [markBB (k + (sumD l : Nat)) x] := by
  induction l generalizing k with
  | nil => simp [markDD, sumD, sumF]
  | cons y l ih => simp [markDD, ih, sumD, sumF, Int.add_assoc]
theorem markDD_len (k : Int) (l : List (List (List UInt8))) : (markDD k l).length = l.length := by
  induction l generalizing k with
  | nil => rfl
  | cons y l ih => simp [markDD, ih]
theorem markDD_get (k : Int) (l : List (List (List UInt8))) (j : Nat) (x : List (List UInt8)) (h : l[j]? = some x) : (markDD k l)[j]? = some (markBB (k + (sumD (l.take j) : Nat)) x) := by
  induction l generalizing k j with
  | nil => simp at h
  | cons y l ih =>
    cases j with
    | zero => simp at h; subst h; simp [markDD, sumD, sumF]
    | succ j =>
      simp at h
      have := ih (k + (sumL y : Nat)) j h
      simp only [markDD, List.getElem?_cons_succ, this, List.take_succ_cons]
      congr 2
      simp [sumD, sumF]; omega
theorem elD_info : (Try.prog.info? 31).map (fun i => (i.zero, i.size, i.bytes)) = some (some (.agg #[.slice none 0 0]), 1, 24) := by kernel_rfl
theorem run_mkD (n : Nat) (hn : n ≤ 1099511627776) (w : World) :
    (Instr.makeSlice 27 (.int .i64 (n : Int)) (.int .i64 (n : Int))).run Try.prog w = .ok (.slice (some ⟨w.heap.size, 0, none⟩) n n) (w.alloc (.cells (madeCells #[.slice none 0 0] n) 31)) := by
  obtain ⟨i, hi, hzz⟩ := Option.map_eq_some_iff.1 elD_info
  simp only [Prod.mk.injEq] at hzz
  obtain ⟨hz, hs, hb⟩ := hzz
  have hr := run_make (P := Try.prog) w 27 31 i _ Try.underlying27 hi hz .i64 .i64 (n : Int) (n : Int) (by omega) (by omega) (by rw [hb]; omega) (by omega)
  simp only [Int.toNat_natCast, hs, Nat.mul_one] at hr
  exact hr

set_option maxHeartbeats 1000000 in
theorem sz_dbs (v : Value) (xs : List (List (List UInt8))) (l : Int) (w : World) (h : Rd (Rd (Rd RB)) w v xs) (hl : 0 ≤ l) (hl' : l ≤ 9223372036854775807) :
    Calls Try.prog 27 #[v, .int .i64 l] w fun e w' => e = .returned (.int .i64 (if l < (totD xs : Nat) then -1 else l - (totD xs : Nat))) ∧ Below w.heap.size w w' := by
  obtain ⟨A, n, c, rfl, h⟩ := h
  have hnc := h.2.1
  have hcm := h.2.2.1
  unfold maxLen at hcm
  have H := Lib.hid h
  have ht : totD xs = n + sumT xs := by unfold totD; rw [h.1]
  rw [ht]
  clear h ht
  by_cases hn : l < n
  · rw [if_pos (by omega)]
    go_enter Try.func27, Try.ntmps27
    go_wp2
    go_ret
    exact ⟨rfl, Below.refl _ _⟩
  · go_enter Try.func27, Try.ntmps27
    go_wp2
    go_loopw [1, 5] (fun lv i wr => ∃ k : Nat, k ≤ n ∧ i = .int .i64 k ∧ lv = .int .i64 (l - n - (sumT (xs.take k) : Nat)) ∧ (0 : Int) ≤ l - n - (sumT (xs.take k) : Nat) ∧ Below w.heap.size w wr) (fun _ i _ => n - (intOf i).toNat)
    case atStart => exact ⟨0, Nat.zero_le _, rfl, by simp [sumT, sumF], by simp [sumT, sumF]; omega, Below.refl _ _⟩
    case round =>
      obtain ⟨k, hk', rfl, rfl, hp, hb⟩ := hrel
      by_cases hlt : k < n
      · obtain ⟨b, off, x, u, rfl, hbb, hx, hu, hr⟩ := H.out.at_ hlt
        have g1 := (hb.cell (p := ⟨b, off + k, none⟩) hbb).trans hu
        have r1 : Rd (Rd RB) wr u x := Rd_reads (Rd_reads RB_reads) _ _ _ _ hr hb
        have hsum := sumF_take_succ tot xs k x hx
        have hsle := sumF_take_le tot xs (k + 1)
        have HS : Hid (sumT (xs.take (k + 1)) = sumT (xs.take k) + tot x) := Lib.hid hsum
        replace hsle : sumT (xs.take k) + tot x ≤ sumT xs := HS.out ▸ hsle
        clear hu hx hsum hr
        by_cases hc : l - n - (sumT (xs.take k) : Nat) < (tot x : Nat)
        · go_wp2_with fail
          refine (sz_db _ _ _ _ r1 hp (by omega)).mono ?_
          rintro e w1 ⟨rfl, b1⟩
          rw [if_pos hc]
          go_wp2
          go_ret
          exact ⟨ret_int (by first | rfl | (rw [if_pos (by omega)])), hb.trans (b1.mono hb.size)⟩
        · go_wp2_with fail
          refine (sz_db _ _ _ _ r1 hp (by omega)).mono ?_
          rintro e w1 ⟨rfl, b1⟩
          rw [if_neg (by omega)]
          go_wp2
          go_roundw
          case rel => exact ⟨k + 1, by omega, by go_num, by rw [HS.out]; go_num, by rw [HS.out]; omega, hb.trans (b1.mono hb.size)⟩
          case measure => simp [intOf]; omega
      · have hkn : k = n := by omega
        subst hkn
        have e := List.take_of_length_le (Nat.le_of_eq H.out.1)
        rw [e] at hp ⊢
        go_wp2
        go_ret
        exact ⟨ret_int (by first | omega | (rw [if_neg (by omega)]; omega)), hb⟩
set_option maxHeartbeats 1000000 in
theorem to_dbs (v : Value) (xs : List (List (List UInt8))) (w : World) (h : Rd (Rd (Rd RB)) w v xs) (hn : totD xs ≤ 1048576) :
    Calls Try.prog 28 #[v] w fun e w' => ∃ v', e = .returned v' ∧ Fresh ODB w w' v' xs := by
  obtain ⟨A, n, c, rfl, h⟩ := h
  have hnc := h.2.1
  have hcm := h.2.2.1
  have hl := len_le_totD xs
  rw [h.1] at hl
  unfold maxLen at hcm
  have hsl := sumD_le_tot xs
  have H := Lib.hid h
  clear h
  have hmk := run_mkD n (by omega)
  go_enter Try.func28, Try.ntmps28
  go_wp2
  go_loopw [4] (fun i wr => ∃ k : Nat, k ≤ n ∧ i = .int .i64 k ∧ Hid (NRow 31 OBB w.heap.size wr (.slice (some ⟨w.heap.size, 0, none⟩) n n) n (xs.take k) (List.replicate (n - k) (.slice none 0 0))) ∧ w.heap.size < wr.heap.size ∧ Below w.heap.size w wr) (fun i _ => n - (intOf i).toNat)
  case atStart =>
    refine ⟨0, Nat.zero_le _, rfl, Lib.hid ?_, by simp, below_alloc _ _⟩
    simpa using NRow_made (E := 31) (R := OBB) (B := w.heap.size) w (.slice none 0 0) n (Nat.le_refl _) (by unfold maxLen; omega)
  case round =>
    obtain ⟨k, hk', rfl, hrow, hs, hb⟩ := hrel
    by_cases hlt : k < n
    · obtain ⟨b, off, x, u, rfl, hbb, hx, hu, hr⟩ := H.out.at_ hlt
      have g1 := (hb.cell (p := ⟨b, off + k, none⟩) hbb).trans hu
      have r1 : Rd (Rd RB) wr u x := Rd_reads (Rd_reads RB_reads) _ _ _ _ hr hb
      have hsle := get_le_totD xs k x hx
      have HX := Lib.hid hx
      clear hu hx hr
      go_wp2_with fail
      refine (to_db _ _ _ r1 (by omega)).mono ?_
      rintro e w1 ⟨A', l', c', rfl, F⟩
      have hb1 := F.below
      have hF := Lib.hid F
      have hrow1 := hrow.out.below OBB_good hb1
      obtain ⟨q, q1, q2, _⟩ := hrow1.cell hlt
      have hs1 := hb1.size
      clear F hrow1
      go_wp2
      go_roundw
      case rel =>
        refine ⟨k + 1, by omega, by go_num, Lib.hid ?_, by simp; omega, ?_⟩
        · have h0 := hrow.out
          rw [show n - k = (n - (k + 1)) + 1 by omega, List.replicate_succ] at h0
          have := h0.put OBB_good hF.out (Nat.le_of_lt hs)
          rw [take_succ_get xs k x HX.out]
          have hlk : (xs.take k).length = k := by rw [List.length_take, H.out.1]; omega
          rwa [hlk] at this
        · exact (hb.trans (hb1.mono hb.size)).setCell (Nat.le_refl _) _
      case measure => simp [intOf]; omega
    · have hkn : k = n := by omega
      subst hkn
      have h0 := hrow.out
      rw [Nat.sub_self, List.take_of_length_le (Nat.le_of_eq H.out.1)] at h0
      go_wp2
      go_ret
      exact ⟨_, rfl, h0.fresh_ hb (Nat.le_refl _)⟩
set_option maxHeartbeats 1000000 in
theorem eq_dbs (v1 v2 : Value) (xs : List (List (List UInt8))) (w : World) (h1 : Rd (Rd (Rd RB)) w v1 xs) (h2 : Rd (Rd (Rd RB)) w v2 xs) :
    Calls Try.prog 30 #[v1, v2] w fun e w' => e = .returned (.bool true) ∧ Below w.heap.size w w' := by
  obtain ⟨A, n, c, rfl, h⟩ := h1
  obtain ⟨B, m, d, rfl, h'⟩ := h2
  obtain rfl : n = m := h.1.symm.trans h'.1
  have hcm := h.2.2.1
  have hnc := h.2.1
  unfold maxLen at hcm
  have H := Lib.hid h
  have H' := Lib.hid h'
  clear h h'
  go_enter Try.func30, Try.ntmps30
  go_wp2
  go_loopw [5] (fun i wr => ∃ k : Nat, k ≤ n ∧ i = .int .i64 k ∧ Below w.heap.size w wr) (fun i _ => n - (intOf i).toNat)
  case atStart => exact ⟨0, Nat.zero_le _, rfl, Below.refl _ _⟩
  case round =>
    obtain ⟨k, hk, rfl, hb⟩ := hrel
    by_cases hlt : k < n
    · obtain ⟨b, off, x, u, rfl, hbb, hx, hu, hr⟩ := H.out.at_ hlt
      obtain ⟨b', off', x', u', rfl, hbb', hx', hu', hr'⟩ := H'.out.at_ hlt
      obtain rfl : x = x' := by rw [hx] at hx'; injection hx'
      have g1 := (hb.cell (p := ⟨b, off + k, none⟩) hbb).trans hu
      have g2 := (hb.cell (p := ⟨b', off' + k, none⟩) hbb').trans hu'
      have r1 : Rd (Rd RB) wr.drew u x := Rd_reads (Rd_reads RB_reads) _ _ _ _ hr hb.drew
      have r2 : Rd (Rd RB) wr.drew u' x := Rd_reads (Rd_reads RB_reads) _ _ _ _ hr' hb.drew
      have hk0 : (0 : Int) ≤ (k : Int) := by omega
      have hkn : (k : Int) < (n : Int) := by omega
      clear hu hu' hx hx' hr hr'
      go_wp2_with fail
      go_region_held3 (fun w' => w'.cell? ⟨b, off + k, none⟩ = some u ∧ w'.cell? ⟨b', off' + k, none⟩ = some u')
        (first | go_keep | (exact ⟨(bb.cell (p := ⟨b, off + k, none⟩) (Nat.lt_of_lt_of_le hbb hb.size)).trans g1, (bb.cell (p := ⟨b', off' + k, none⟩) (Nat.lt_of_lt_of_le hbb' hb.size)).trans g2⟩))
        (first | (go_at_call 29; refine (eq_db _ _ _ _ r1 r2).mono ?_; rintro e w1 ⟨rfl, bb⟩))
      go_wp2
      go_roundw
      case rel => exact ⟨k + 1, by omega, by go_num, hb.drew.trans (bb.mono hb.size)⟩
      case measure => simp [intOf]; omega
    · go_wp2
      go_ret
      exact ⟨rfl, hb⟩
set_option maxHeartbeats 1000000 in
theorem mark_dbsF (v : Value) (xs : List (List (List UInt8))) (F : List Nat) (k0 : Int) (w : World) (h : ODB w v xs F) (hF : F.Nodup) (hk0 : 0 ≤ k0) (hk : k0 + sumD xs ≤ 4611686018427387904) :
    Calls Try.prog 31 #[v, .int .i64 k0] w fun e w' => e = .returned (.int .i64 (k0 + sumD xs)) ∧ ODB w' v (markDD k0 xs) F ∧ Only F w w' := by
  obtain ⟨cells, F', h1, h2, rfl⟩ := h
  rcases h1.2 with ⟨rfl, h0⟩ | ⟨g, cap, cur, rfl, _, hg, hnc, hcm, _, _⟩
  · obtain rfl := List.eq_nil_of_length_eq_zero h0
    have h3 : ODB w (.slice none 0 0) [] ((Value.slice none 0 0).ownBlock.toList ++ F') := ⟨cells, F', h1, h2, rfl⟩
    go_enter Try.func31, Try.ntmps31
    go_wp2
    refine wp_loop_rounds 1 ?_
    rw [rounds_succ]
    go_wp2
    go_ret
    exact ⟨ret_int (by simp [sumD, sumF]), h3, Only.refl _ _⟩
  · obtain ⟨n, hn⟩ : ∃ n, xs.length = n := ⟨_, rfl⟩
    rw [hn] at h1 hnc ⊢
    unfold maxLen at hcm
    have HH := Lib.hid h1
    have HN := Lib.hid hn
    have HA := Lib.hid h2
    have HF := Lib.hid hF
    clear h1 h2 hn hF hg
    go_enter Try.func31, Try.ntmps31
    go_wp2
    go_loopw [1, 5] (fun kk i wr => ∃ k : Nat, k ≤ n ∧ i = .int .i64 k ∧ kk = .int .i64 (k0 + (sumD (xs.take k) : Nat)) ∧ Hid (wr.ownsRow 0 31 1 (.slice (some ⟨g, 0, none⟩) n cap) n cells ∧ AllR OBB wr cells (markDD k0 (xs.take k) ++ xs.drop k) F') ∧ Hid (Only (g :: F') w wr)) (fun _ i _ => n - (intOf i).toNat)
    case atStart => exact ⟨0, Nat.zero_le _, rfl, by simp [sumD, sumF], Lib.hid ⟨HH.out, by simpa [markDD] using HA.out⟩, Lib.hid (Only.refl _ _)⟩
    case round =>
      obtain ⟨k, hk', rfl, rfl, hown, hb⟩ := hrel
      by_cases hlt : k < n
      · obtain ⟨y, hy⟩ : ∃ y, xs[k]? = some y := ⟨_, List.getElem?_eq_getElem (by have := HN.out; omega)⟩
        have hml : (markDD k0 (xs.take k)).length = k := by rw [markDD_len, List.length_take, HN.out]; omega
        have hget : (markDD k0 (xs.take k) ++ xs.drop k)[k]? = some y := by rw [List.getElem?_append_right (by omega), hml, Nat.sub_self]; simpa using hy
        obtain ⟨u, G1, G2, G3, hu, hFe, a1, a2, a3⟩ := hown.out.2.split hget
        have g2 := (hown.out.1.cellAt k (by omega)).trans hu
        have hsum := sumD_take_succ xs k y hy
        have hsle := sumD_take_le xs (k + 1)
        have HS := Lib.hid hsum
        rw [hsum] at hsle
        have HM := Lib.hid hml
        have HY := Lib.hid hy
        have HFE := Lib.hid hFe
        have HG2 : Hid (G2.Nodup) := Lib.hid (by
          have hnd := HF.out
          rw [hFe] at hnd
          exact (List.nodup_append.1 (List.nodup_append.1 (List.nodup_append.1 hnd).2.1).2.1).1)
        have A1 := Lib.hid a1
        have A3 := Lib.hid a3
        clear hsum hml hy hget hFe a1 a3 hu
        go_wp2_with fail
        refine (mark_bytessF _ y G2 _ _ a2 HG2.out (by omega) (by omega)).mono ?_
        rintro e w1 ⟨rfl, o2, on⟩
        have hrow1 : w1.ownsRow 0 31 1 (.slice (some ⟨g, 0, none⟩) n cap) n cells ∧ AllR OBB w1 cells (markDD k0 (xs.take (k + 1)) ++ xs.drop (k + 1)) F' ∧ Only (g :: F') w w1 := by
          have hnd := HF.out
          have hFe := HFE.out
          subst hFe
          simp only [Value.ownBlock, Option.toList_some, List.singleton_append, List.nodup_cons, List.mem_append, List.nodup_append] at hnd
          have hgl : g < wr.heap.size := (hown.out.1.lt g rfl).2
          have k1 := A1.out.lt OBB_good
          have k3 := A3.out.lt OBB_good
          have s1 := A1.out.stab (w' := w1) OBB_good (fun b hb' => on.block b (k1 b hb') (fun hb2 => hnd.2.2.2 b hb' b (.inl hb2) rfl))
          have s3 := A3.out.stab (w' := w1) OBB_good (fun b hb' => on.block b (k3 b hb') (fun hb2 => hnd.2.2.1.2.2 b hb2 b hb' rfl))
          refine ⟨ownsRow_at hown.out.1 (fun b hb' => ?_), ?_, hb.out.trans (on.mono (fun x hx => by simp [hx]))⟩
          · simp [Value.ownBlock] at hb'
            subst hb'
            exact on.block _ hgl (fun hb2 => hnd.1 (.inr (.inl hb2)))
          · have hm := HM.out
            have hlc : cells.length = n := by have := hown.out.1.1; omega
            have e1 : cells = cells.take k ++ (u :: cells.drop (k + 1)) := by
              have hul : cells[k]? = some u := by
                have := hown.out.1.cellAt k (by omega)
                rw [g2] at this
                exact this.symm
              obtain ⟨hkl, hue⟩ := List.getElem?_eq_some_iff.1 hul
              rw [← hue, ← List.drop_eq_getElem_cons hkl, List.take_append_drop]
            rw [take_succ_get xs k y HY.out, markDD_snoc, List.append_assoc]
            rw [List.take_append_of_le_length (by omega), List.take_of_length_le (l := markDD k0 (xs.take k)) (by omega)] at s1
            have e3 : (markDD k0 (xs.take k) ++ xs.drop k).drop (k + 1) = xs.drop (k + 1) := by
              rw [List.drop_append, hm, List.drop_of_length_le (by omega)]
              simp
            rw [e3] at s3
            rw [e1]
            exact s1.append (show AllR _ _ (u :: _) (_ :: _) _ from ⟨G2, G3, rfl, o2, s3⟩)
        have HR := Lib.hid hrow1
        clear hrow1 o2 on a2
        go_wp2
        go_roundw
        case rel => exact ⟨k + 1, by omega, by go_num, by rw [HS.out]; go_num, Lib.hid ⟨HR.out.1, HR.out.2.1⟩, Lib.hid HR.out.2.2⟩
        case measure => simp [intOf]; omega
      · have hkn : k = n := by omega
        subst hkn
        go_wp2
        go_ret
        have ho := hown.out
        have e : xs.take k = xs := List.take_of_length_le (by have := HN.out; omega)
        rw [List.drop_of_length_le (by have := HN.out; omega), List.append_nil, e] at ho
        refine ⟨ret_int (by rw [e]), ⟨cells, F', by rw [markDD_len, HN.out]; exact ho.1, ho.2, rfl⟩, hb.out.mono (fun x hx => by simpa [Value.ownBlock] using hx)⟩

theorem mark_dbs (lo hi : Nat) (v : Value) (xs : List (List (List UInt8))) (k0 : Int) (w : World) (h : Iv ODB lo hi w v xs) (hk0 : 0 ≤ k0) (hk : k0 + sumD xs ≤ 4611686018427387904) :
    Calls Try.prog 31 #[v, .int .i64 k0] w fun e w' => e = .returned (.int .i64 (k0 + sumD xs)) ∧ Iv ODB lo hi w' v (markDD k0 xs) ∧ Chg lo hi w w' := by
  obtain ⟨F, f1, f2, f3⟩ := h
  refine (mark_dbsF v xs F k0 w f1 f2 hk0 hk).mono ?_
  rintro e w' ⟨rfl, o, on⟩
  exact ⟨rfl, ⟨F, o, f2, f3⟩, on.chg f3⟩
set_option maxHeartbeats 1000000 in
theorem held_dbs (v : Value) (xs : List (List (List UInt8))) (k0 : Int) (w : World) (h : Rd (Rd (Rd RB)) w v (markDD k0 xs)) (hk0 : 0 ≤ k0) (hk : k0 + sumD xs ≤ 4611686018427387904) :
    Calls Try.prog 41 #[v, .int .i64 k0] w fun e w' => e = .returned (.int .i64 (k0 + sumD xs)) ∧ Below w.heap.size w w' := by
  obtain ⟨A, n, c, rfl, h⟩ := h
  have hl : xs.length = n := by have := h.1; rw [markDD_len] at this; exact this
  have hcm := h.2.2.1
  have hnc := h.2.1
  unfold maxLen at hcm
  have H := Lib.hid h
  have HL := Lib.hid hl
  clear h hl
  go_enter Try.func41, Try.ntmps41
  go_wp2
  go_loopw [1, 5] (fun kk i wr => ∃ k : Nat, k ≤ n ∧ i = .int .i64 k ∧ kk = .int .i64 (k0 + (sumD (xs.take k) : Nat)) ∧ Below w.heap.size w wr) (fun _ i _ => n - (intOf i).toNat)
  case atStart => exact ⟨0, Nat.zero_le _, rfl, by simp [sumD, sumF], Below.refl _ _⟩
  case round =>
    obtain ⟨k, hk', rfl, rfl, hb⟩ := hrel
    by_cases hlt : k < n
    · obtain ⟨b, off, x, u, rfl, hbb, hx, hu, hr⟩ := H.out.at_ hlt
      obtain ⟨y, hy⟩ : ∃ y, xs[k]? = some y := ⟨_, List.getElem?_eq_getElem (by have := HL.out; omega)⟩
      obtain rfl : x = markBB (k0 + (sumD (xs.take k) : Nat)) y := by rw [markDD_get k0 xs k y hy] at hx; injection hx with e; exact e.symm
      have g1 := (hb.cell (p := ⟨b, off + k, none⟩) hbb).trans hu
      have r1 := Rd_reads (Rd_reads RB_reads) _ _ _ _ hr hb
      have hsum := sumD_take_succ xs k y hy
      have hsle := sumD_take_le xs (k + 1)
      have HS := Lib.hid hsum
      rw [hsum] at hsle
      clear hu hx hy hsum hr
      go_wp2_with fail
      refine (held_bytess _ y _ _ r1 (by omega) (by omega)).mono ?_
      rintro e w1 ⟨rfl, bb⟩
      have hb2 := hb.trans (bb.mono hb.size)
      clear bb r1
      go_wp2
      go_roundw
      case rel => exact ⟨k + 1, by omega, by go_num, by rw [HS.out]; go_num, hb2⟩
      case measure => simp [intOf]; omega
    · go_wp2
      go_ret
      have hkn : k = n := by omega
      subst hkn
      exact ⟨ret_int (by rw [List.take_of_length_le (by have := HL.out; omega)]), hb⟩
end Go.Proofs.Ytokhogdocaeelaa
