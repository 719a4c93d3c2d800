/- Contracts of the laws' helpers over [][]byte, [][]int and Database: copies, equality, sizes, marks. -/
import Derived.Test.YtokhogdocaeelaaFlat
import Derived.Test.YtokhogdocaeelaaNest
import Derived.Deep.RegionHeld3
namespace Go.Proofs.Ytokhogdocaeelaa
set_option linter.unusedVariables false
open Go.RowKit

/-- The blocks of F alone may have turned. -/
structure Only (F : List Nat) (w w' : World) : Prop where
  os : w'.os = w.os
  tape : w'.tape = w.tape
  output : w'.output = w.output
  size : w.heap.size ≤ w'.heap.size
  block : ∀ k, k < w.heap.size → k ∉ F → w'.heap[k]? = w.heap[k]?
theorem Only.refl (F : List Nat) (w : World) : Only F w w := ⟨rfl, rfl, rfl, Nat.le_refl _, fun _ _ _ => rfl⟩
theorem Only.trans {F : List Nat} {a b c : World} (h : Only F a b) (k : Only F b c) : Only F a c :=
  ⟨k.os.trans h.os, k.tape.trans h.tape, k.output.trans h.output, Nat.le_trans h.size k.size, fun i hi hn => (k.block i (Nat.lt_of_lt_of_le hi h.size) hn).trans (h.block i hi hn)⟩
theorem Only.mono {F G : List Nat} {a b : World} (h : Only F a b) (hs : ∀ x, x ∈ F → x ∈ G) : Only G a b :=
  ⟨h.os, h.tape, h.output, h.size, fun i hi hn => h.block i hi (fun hf => hn (hs i hf))⟩
theorem Only.chg {F : List Nat} {lo hi : Nat} {a b : World} (h : Only F a b) (hF : ∀ x, x ∈ F → lo ≤ x ∧ x < hi) : Chg lo hi a b :=
  ⟨h.os, h.tape, h.output, h.size, fun i hi' hn => h.block i hi' (fun hf => hn (hF i hf))⟩
theorem Chg.only {g : Nat} {a b : World} (h : Chg g (g + 1) a b) : Only [g] a b :=
  ⟨h.os, h.tape, h.output, h.size, fun i hi' hn => h.block i hi' (fun hf => hn (by simp; omega))⟩

def sumL {α : Type} (l : List (List α)) : Nat := (l.map List.length).sum
def tot {α : Type} (l : List (List α)) : Nat := l.length + sumL l
theorem sumL_take_succ {α : Type} (l : List (List α)) (k : Nat) (x : List α) (h : l[k]? = some x) : sumL (l.take (k + 1)) = sumL (l.take k) + x.length := by
  unfold sumL
  rw [take_succ_get l k x h]; simp
theorem sumL_take_le {α : Type} (l : List (List α)) (k : Nat) : sumL (l.take k) ≤ sumL l := by
  have h : sumL l = sumL (l.take k) + sumL (l.drop k) := by
    unfold sumL
    rw [← List.sum_append, ← List.map_append, List.take_append_drop]
  omega
theorem sumL_le {α : Type} (l : List (List α)) : sumL l ≤ tot l := by unfold tot; omega
theorem len_le_tot {α : Type} (l : List (List α)) : l.length ≤ tot l := by unfold tot; omega
theorem get_le_sumL {α : Type} (l : List (List α)) (k : Nat) (x : List α) (h : l[k]? = some x) : x.length ≤ sumL l := by
  have h1 := sumL_take_succ l k x h
  have h2 := sumL_take_le l (k + 1)
  omega

def OBB : FRel (List (List UInt8)) := Own 22 (Own 5 FB)
theorem OBB_good : Good OBB := Own_good (Own_good FB_good)
theorem rd_bytess {lo hi : Nat} {w : World} {v : Value} {xs : List (List UInt8)} (h : Iv OBB lo hi w v xs) : Rd (Rd RB) w v xs := Iv.rd (E := 22) (R := Own 5 FB) h (fun j => j.rd (fun k => k.rb))

def markBB : Int → List (List UInt8) → List (List UInt8)
  | _, [] => []
  | k, xs :: xss => markB k xs.length :: markBB (k + xs.length) xss
theorem markBB_snoc (k : Int) (l : List (List UInt8)) (x : List UInt8) : markBB k (l ++ [x]) = markBB k l ++ [markB (k + (sumL l : Nat)) x.length] := by
  induction l generalizing k with
  | nil => simp [markBB, sumL]
  | cons y l ih => simp [markBB, ih, sumL, Int.add_assoc]
theorem markBB_len (k : Int) (l : List (List UInt8)) : (markBB k l).length = l.length := by
  induction l generalizing k with
  | nil => rfl
  | cons y l ih => simp [markBB, ih]
theorem markBB_get (k : Int) (l : List (List UInt8)) (j : Nat) (x : List UInt8) (h : l[j]? = some x) : (markBB k l)[j]? = some (markB (k + (sumL (l.take j) : Nat)) x.length) := by
  induction l generalizing k j with
  | nil => simp at h
  | cons y l ih =>
    cases j with
    | zero => simp at h; subst h; simp [markBB, sumL]
    | succ j =>
      simp at h
      have := ih (k + y.length) j h
      simp only [markBB, List.getElem?_cons_succ, this, List.take_succ_cons]
      congr 2
      simp [sumL]; omega
theorem sumL_markBB (k : Int) (l : List (List UInt8)) : sumL (markBB k l) = sumL l := by
  induction l generalizing k with
  | nil => rfl
  | cons y l ih => have := ih (k + y.length); simp [markBB, sumL, markB] at this ⊢; omega

theorem mark_bytesF (v : Value) (xs : List UInt8) (F : List Nat) (k0 : Int) (w : World) (h : Own 5 FB w v xs F) (hk0 : 0 ≤ k0) (hk : k0 + xs.length ≤ 4611686018427387904) :
    Calls Try.prog 37 #[v, .int .i64 k0] w fun e w' => e = .returned (.int .i64 (k0 + xs.length)) ∧ Own 5 FB w' v (markB k0 xs.length) F ∧ Only F w w' := by
  obtain ⟨h1, rfl⟩ := Own_flatB.1 h
  cases hv : v.ownBlock with
  | none =>
    have hi : Iv (Own 5 FB) 0 0 w v xs := ⟨_, h, by rw [hv]; simp, by rw [hv]; simp⟩
    refine (mark_bytes 0 0 v xs k0 w hi hk0 hk).mono ?_
    rintro e w' ⟨rfl, ⟨F', f1, _, _⟩, c⟩
    obtain ⟨f2, rfl⟩ := Own_flatB.1 f1
    rw [hv] at f1
    exact ⟨rfl, f1, c.os, c.tape, c.output, c.size, fun k hk' _ => c.block k hk' (by omega)⟩
  | some g =>
    have hi : Iv (Own 5 FB) g (g + 1) w v xs := ⟨_, h, by rw [hv]; simp, by rw [hv]; simp⟩
    refine (mark_bytes g (g + 1) v xs k0 w hi hk0 hk).mono ?_
    rintro e w' ⟨rfl, ⟨F', f1, _, _⟩, c⟩
    obtain ⟨f2, rfl⟩ := Own_flatB.1 f1
    rw [hv] at f1
    exact ⟨rfl, f1, c.only⟩

set_option maxHeartbeats 1000000 in
theorem sz_bytess (v : Value) (xs : List (List UInt8)) (l : Int) (w : World) (h : Rd (Rd RB) w v xs) (hl : 0 ≤ l) (hl' : l ≤ 9223372036854775807) :
    Calls Try.prog 119 #[v, .int .i64 l] w fun e w' => e = .returned (.int .i64 (if l < (tot xs : Nat) then -1 else l - (tot xs : Nat))) ∧ Below w.heap.size w w' := by
  obtain ⟨A, n, c, rfl, h⟩ := h
  have hnc := h.2.1
  have hcm := h.2.2.1
  unfold maxLen at hcm
  have H := Lib.hid h
  have ht : tot xs = n + sumL xs := by unfold tot; rw [h.1]
  rw [ht]
  clear h ht
  by_cases hn : l < n
  · rw [if_pos (by omega)]
    go_enter Try.func119, Try.ntmps119
    go_wp2
    go_ret
    exact ⟨rfl, Below.refl _ _⟩
  · go_enter Try.func119, Try.ntmps119
    go_wp2
    go_loopw [1, 5] (fun lv i wr => ∃ k : Nat, k ≤ n ∧ i = .int .i64 k ∧ lv = .int .i64 (l - n - (sumL (xs.take k) : Nat)) ∧ (0 : Int) ≤ l - n - (sumL (xs.take k) : Nat) ∧ Below w.heap.size w wr) (fun _ i _ => n - (intOf i).toNat)
    case atStart => exact ⟨0, Nat.zero_le _, rfl, by simp [sumL], by simp [sumL]; omega, Below.refl _ _⟩
    case round =>
      obtain ⟨k, hk', rfl, rfl, hp, hb⟩ := hrel
      by_cases hlt : k < n
      · obtain ⟨b, off, x, u, rfl, hbb, hx, hu, hr⟩ := H.out.at_ hlt
        have g1 := (hb.cell (p := ⟨b, off + k, none⟩) hbb).trans hu
        have r1 : Rd RB wr u x := Rd_reads RB_reads _ _ _ _ hr hb
        have hsum := sumL_take_succ xs k x hx
        have hsle := sumL_take_le xs (k + 1)
        have HS := Lib.hid hsum
        rw [hsum] at hsle
        clear hu hx hsum hr
        by_cases hc : l - n - (sumL (xs.take k) : Nat) < x.length
        · go_wp2_with fail
          refine (szByteS_c _ _ _ _ r1 hp (by omega)).mono ?_
          rintro e w1 ⟨rfl, rfl⟩
          rw [if_pos hc]
          go_wp2
          go_ret
          exact ⟨ret_int (by first | rfl | (rw [if_pos (by omega)])), hb⟩
        · go_wp2_with fail
          refine (szByteS_c _ _ _ _ r1 hp (by omega)).mono ?_
          rintro e w1 ⟨rfl, rfl⟩
          rw [if_neg (by omega)]
          go_wp2
          go_roundw
          case rel => exact ⟨k + 1, by omega, by go_num, by rw [HS.out]; go_num, by rw [HS.out]; omega, hb⟩
          case measure => simp [intOf]; omega
      · have hkn : k = n := by omega
        subst hkn
        have e := List.take_of_length_le (Nat.le_of_eq H.out.1)
        rw [e] at hp ⊢
        go_wp2
        go_ret
        exact ⟨ret_int (by first | omega | (rw [if_neg (by omega)]; omega)), hb⟩

set_option maxHeartbeats 1000000 in
theorem to_bytess (v : Value) (xs : List (List UInt8)) (w : World) (h : Rd (Rd RB) w v xs) (hn : tot xs ≤ 1048576) :
    Calls Try.prog 120 #[v] w fun e w' => ∃ v', e = .returned v' ∧ Fresh OBB w w' v' xs := by
  obtain ⟨A, n, c, rfl, h⟩ := h
  have hnc := h.2.1
  have hcm := h.2.2.1
  have hl := len_le_tot xs
  rw [h.1] at hl
  unfold maxLen at hcm
  have hsl := sumL_le xs
  have H := Lib.hid h
  clear h
  have hmk := run_mk elBB .i64 .i64 n (by omega) (by omega)
  go_enter Try.func120, Try.ntmps120
  go_wp2
  go_loopw [4] (fun i wr => ∃ k : Nat, k ≤ n ∧ i = .int .i64 k ∧ Hid (NRow 22 (Own 5 FB) w.heap.size wr (.slice (some ⟨w.heap.size, 0, none⟩) n n) n (xs.take k) (List.replicate (n - k) (.slice none 0 0))) ∧ w.heap.size < wr.heap.size ∧ Below w.heap.size w wr) (fun i _ => n - (intOf i).toNat)
  case atStart =>
    refine ⟨0, Nat.zero_le _, rfl, Lib.hid ?_, by simp, below_alloc _ _⟩
    simpa using NRow_made (E := 22) (R := Own 5 FB) (B := w.heap.size) w (.slice none 0 0) n (Nat.le_refl _) (by unfold maxLen; omega)
  case round =>
    obtain ⟨k, hk', rfl, hrow, hs, hb⟩ := hrel
    by_cases hlt : k < n
    · obtain ⟨b, off, x, u, rfl, hbb, hx, hu, hr⟩ := H.out.at_ hlt
      have g1 := (hb.cell (p := ⟨b, off + k, none⟩) hbb).trans hu
      have r1 : Rd RB wr u x := Rd_reads RB_reads _ _ _ _ hr hb
      have hsle := get_le_sumL xs k x hx
      have HX := Lib.hid hx
      clear hu hx hr
      go_wp2_with fail
      refine (to_bytes _ _ _ r1 (by omega)).mono ?_
      rintro e w1 ⟨u', rfl, F⟩
      obtain ⟨A', l', c', rfl⟩ := fresh_slice F
      have hb1 := F.below
      have hF := Lib.hid F
      have hrow1 := hrow.out.below (Own_good FB_good) hb1
      obtain ⟨q, q1, q2, _⟩ := hrow1.cell hlt
      have hs1 := hb1.size
      clear F hrow1
      go_wp2
      go_roundw
      case rel =>
        refine ⟨k + 1, by omega, by go_num, Lib.hid ?_, by simp; omega, ?_⟩
        · have h0 := hrow.out
          rw [show n - k = (n - (k + 1)) + 1 by omega, List.replicate_succ] at h0
          have := h0.put (Own_good FB_good) hF.out (Nat.le_of_lt hs)
          rw [take_succ_get xs k x HX.out]
          have hlk : (xs.take k).length = k := by rw [List.length_take, H.out.1]; omega
          rwa [hlk] at this
        · exact (hb.trans (hb1.mono hb.size)).setCell (Nat.le_refl _) _
      case measure => simp [intOf]; omega
    · have hkn : k = n := by omega
      subst hkn
      have h0 := hrow.out
      rw [Nat.sub_self, List.take_of_length_le (Nat.le_of_eq H.out.1)] at h0
      go_wp2
      go_ret
      exact ⟨_, rfl, h0.fresh_ hb (Nat.le_refl _)⟩

set_option maxHeartbeats 1000000 in
theorem eq_bytess (v1 v2 : Value) (xs : List (List UInt8)) (w : World) (h1 : Rd (Rd RB) w v1 xs) (h2 : Rd (Rd RB) w v2 xs) :
    Calls Try.prog 83 #[v1, v2] w fun e w' => e = .returned (.bool true) ∧ Below w.heap.size w w' := by
  obtain ⟨A, n, c, rfl, h⟩ := h1
  obtain ⟨B, m, d, rfl, h'⟩ := h2
  obtain rfl : n = m := h.1.symm.trans h'.1
  have hcm := h.2.2.1
  have hnc := h.2.1
  unfold maxLen at hcm
  have H := Lib.hid h
  have H' := Lib.hid h'
  clear h h'
  go_enter Try.func83, Try.ntmps83
  go_wp2
  go_loopw [5] (fun i wr => ∃ k : Nat, k ≤ n ∧ i = .int .i64 k ∧ Below w.heap.size w wr) (fun i _ => n - (intOf i).toNat)
  case atStart => exact ⟨0, Nat.zero_le _, rfl, Below.refl _ _⟩
  case round =>
    obtain ⟨k, hk, rfl, hb⟩ := hrel
    by_cases hlt : k < n
    · obtain ⟨b, off, x, u, rfl, hbb, hx, hu, hr⟩ := H.out.at_ hlt
      obtain ⟨b', off', x', u', rfl, hbb', hx', hu', hr'⟩ := H'.out.at_ hlt
      obtain rfl : x = x' := by rw [hx] at hx'; injection hx'
      have g1 := (hb.cell (p := ⟨b, off + k, none⟩) hbb).trans hu
      have g2 := (hb.cell (p := ⟨b', off' + k, none⟩) hbb').trans hu'
      have r1 : Rd RB wr.drew u x := Rd_reads RB_reads _ _ _ _ hr hb.drew
      have r2 : Rd RB wr.drew u' x := Rd_reads RB_reads _ _ _ _ hr' hb.drew
      have hk0 : (0 : Int) ≤ (k : Int) := by omega
      have hkn : (k : Int) < (n : Int) := by omega
      clear hu hu' hx hx' hr hr'
      go_wp2_with fail
      go_region_held3 (fun w' => w'.cell? ⟨b, off + k, none⟩ = some u ∧ w'.cell? ⟨b', off' + k, none⟩ = some u')
        (first | go_keep | (exact ⟨(bb.cell (p := ⟨b, off + k, none⟩) (Nat.lt_of_lt_of_le hbb hb.size)).trans g1, (bb.cell (p := ⟨b', off' + k, none⟩) (Nat.lt_of_lt_of_le hbb' hb.size)).trans g2⟩))
        (first | (go_at_call 36; refine (eq_bytes _ _ _ _ r1 r2).mono ?_; rintro e w1 ⟨rfl, bb⟩))
      go_wp2
      go_roundw
      case rel => exact ⟨k + 1, by omega, by go_num, hb.drew.trans (bb.mono hb.size)⟩
      case measure => simp [intOf]; omega
    · go_wp2
      go_ret
      exact ⟨rfl, hb⟩

set_option maxHeartbeats 1000000 in
theorem mark_bytessF (v : Value) (xs : List (List UInt8)) (F : List Nat) (k0 : Int) (w : World) (h : OBB w v xs F) (hF : F.Nodup) (hk0 : 0 ≤ k0) (hk : k0 + sumL xs ≤ 4611686018427387904) :
    Calls Try.prog 84 #[v, .int .i64 k0] w fun e w' => e = .returned (.int .i64 (k0 + sumL xs)) ∧ OBB w' v (markBB k0 xs) F ∧ Only F w w' := by
  obtain ⟨cells, F', h1, h2, rfl⟩ := h
  rcases h1.2 with ⟨rfl, h0⟩ | ⟨g, cap, cur, rfl, _, hg, hnc, hcm, _, _⟩
  · obtain rfl := List.eq_nil_of_length_eq_zero h0
    have h3 : OBB w (.slice none 0 0) [] ((Value.slice none 0 0).ownBlock.toList ++ F') := ⟨cells, F', h1, h2, rfl⟩
    go_enter Try.func84, Try.ntmps84
    go_wp2
    refine wp_loop_rounds 1 ?_
    rw [rounds_succ]
    go_wp2
    go_ret
    exact ⟨ret_int (by simp [sumL]), h3, Only.refl _ _⟩
  · obtain ⟨n, hn⟩ : ∃ n, xs.length = n := ⟨_, rfl⟩
    rw [hn] at h1 hnc ⊢
    unfold maxLen at hcm
    have HH := Lib.hid h1
    have HN := Lib.hid hn
    have HA := Lib.hid h2
    have HF := Lib.hid hF
    clear h1 h2 hn hF hg
    go_enter Try.func84, Try.ntmps84
    go_wp2
    go_loopw [1, 5] (fun kk i wr => ∃ k : Nat, k ≤ n ∧ i = .int .i64 k ∧ kk = .int .i64 (k0 + (sumL (xs.take k) : Nat)) ∧ Hid (wr.ownsRow 0 22 1 (.slice (some ⟨g, 0, none⟩) n cap) n cells ∧ AllR (Own 5 FB) wr cells (markBB k0 (xs.take k) ++ xs.drop k) F') ∧ Hid (Only (g :: F') w wr)) (fun _ i _ => n - (intOf i).toNat)
    case atStart => exact ⟨0, Nat.zero_le _, rfl, by simp [sumL], Lib.hid ⟨HH.out, by simpa [markBB] using HA.out⟩, Lib.hid (Only.refl _ _)⟩
    case round =>
      obtain ⟨k, hk', rfl, rfl, hown, hb⟩ := hrel
      by_cases hlt : k < n
      · obtain ⟨y, hy⟩ : ∃ y, xs[k]? = some y := ⟨_, List.getElem?_eq_getElem (by have := HN.out; omega)⟩
        have hml : (markBB k0 (xs.take k)).length = k := by rw [markBB_len, List.length_take, HN.out]; omega
        have hget : (markBB k0 (xs.take k) ++ xs.drop k)[k]? = some y := by rw [List.getElem?_append_right (by omega), hml, Nat.sub_self]; simpa using hy
        obtain ⟨u, G1, G2, G3, hu, hFe, a1, a2, a3⟩ := hown.out.2.split hget
        have g2 := (hown.out.1.cellAt k (by omega)).trans hu
        have hsum := sumL_take_succ xs k y hy
        have hsle := sumL_take_le xs (k + 1)
        have HS := Lib.hid hsum
        rw [hsum] at hsle
        have HM := Lib.hid hml
        have HY := Lib.hid hy
        have HFE := Lib.hid hFe
        have A1 := Lib.hid a1
        have A3 := Lib.hid a3
        clear hsum hml hy hget hFe a1 a3 hu
        go_wp2_with fail
        refine (mark_bytesF _ y G2 _ _ a2 (by omega) (by omega)).mono ?_
        rintro e w1 ⟨rfl, o2, on⟩
        have hrow1 : w1.ownsRow 0 22 1 (.slice (some ⟨g, 0, none⟩) n cap) n cells ∧ AllR (Own 5 FB) w1 cells (markBB k0 (xs.take (k + 1)) ++ xs.drop (k + 1)) F' ∧ Only (g :: F') w w1 := by
          have hnd := HF.out
          have hFe := HFE.out
          subst hFe
          simp only [Value.ownBlock, Option.toList_some, List.singleton_append, List.nodup_cons, List.mem_append, List.nodup_append] at hnd
          have hgl : g < wr.heap.size := (hown.out.1.lt g rfl).2
          have k1 := A1.out.lt (Own_good FB_good)
          have k3 := A3.out.lt (Own_good FB_good)
          have s1 := A1.out.stab (w' := w1) (Own_good FB_good) (fun b hb' => on.block b (k1 b hb') (fun hb2 => hnd.2.2.2 b hb' b (.inl hb2) rfl))
          have s3 := A3.out.stab (w' := w1) (Own_good FB_good) (fun b hb' => on.block b (k3 b hb') (fun hb2 => hnd.2.2.1.2.2 b hb2 b hb' rfl))
          refine ⟨ownsRow_at hown.out.1 (fun b hb' => ?_), ?_, hb.out.trans (on.mono (fun x hx => by simp [hx]))⟩
          · simp [Value.ownBlock] at hb'
            subst hb'
            exact on.block _ hgl (fun hb2 => hnd.1 (.inr (.inl hb2)))
          · have hm := HM.out
            have hlc : cells.length = n := by have := hown.out.1.1; omega
            have e1 : cells = cells.take k ++ (u :: cells.drop (k + 1)) := by
              have hul : cells[k]? = some u := by
                have := hown.out.1.cellAt k (by omega)
                rw [g2] at this
                exact this.symm
              obtain ⟨hkl, hue⟩ := List.getElem?_eq_some_iff.1 hul
              rw [← hue, ← List.drop_eq_getElem_cons hkl, List.take_append_drop]
            rw [take_succ_get xs k y HY.out, markBB_snoc, List.append_assoc]
            rw [List.take_append_of_le_length (by omega), List.take_of_length_le (l := markBB k0 (xs.take k)) (by omega)] at s1
            have e3 : (markBB k0 (xs.take k) ++ xs.drop k).drop (k + 1) = xs.drop (k + 1) := by
              rw [List.drop_append, hm, List.drop_of_length_le (by omega)]
              simp
            rw [e3] at s3
            rw [e1]
            exact s1.append (show AllR _ _ (u :: _) (_ :: _) _ from ⟨G2, G3, rfl, o2, s3⟩)
        have HR := Lib.hid hrow1
        clear hrow1 o2 on a2
        go_wp2
        go_roundw
        case rel => exact ⟨k + 1, by omega, by go_num, by rw [HS.out]; go_num, Lib.hid ⟨HR.out.1, HR.out.2.1⟩, Lib.hid HR.out.2.2⟩
        case measure => simp [intOf]; omega
      · have hkn : k = n := by omega
        subst hkn
        go_wp2
        go_ret
        have ho := hown.out
        have e : xs.take k = xs := List.take_of_length_le (by have := HN.out; omega)
        rw [List.drop_of_length_le (by have := HN.out; omega), List.append_nil, e] at ho
        refine ⟨ret_int (by rw [e]), ⟨cells, F', by rw [markBB_len, HN.out]; exact ho.1, ho.2, rfl⟩, hb.out.mono (fun x hx => by simpa [Value.ownBlock] using hx)⟩

theorem mark_bytess (lo hi : Nat) (v : Value) (xs : List (List UInt8)) (k0 : Int) (w : World) (h : Iv OBB lo hi w v xs) (hk0 : 0 ≤ k0) (hk : k0 + sumL xs ≤ 4611686018427387904) :
    Calls Try.prog 84 #[v, .int .i64 k0] w fun e w' => e = .returned (.int .i64 (k0 + sumL xs)) ∧ Iv OBB lo hi w' v (markBB k0 xs) ∧ Chg lo hi w w' := by
  obtain ⟨F, f1, f2, f3⟩ := h
  refine (mark_bytessF v xs F k0 w f1 f2 hk0 hk).mono ?_
  rintro e w' ⟨rfl, o, on⟩
  exact ⟨rfl, ⟨F, o, f2, f3⟩, on.chg f3⟩

set_option maxHeartbeats 1000000 in
theorem held_bytess (v : Value) (xs : List (List UInt8)) (k0 : Int) (w : World) (h : Rd (Rd RB) w v (markBB k0 xs)) (hk0 : 0 ≤ k0) (hk : k0 + sumL xs ≤ 4611686018427387904) :
    Calls Try.prog 85 #[v, .int .i64 k0] w fun e w' => e = .returned (.int .i64 (k0 + sumL xs)) ∧ Below w.heap.size w w' := by
  obtain ⟨A, n, c, rfl, h⟩ := h
  have hl : xs.length = n := by have := h.1; rw [markBB_len] at this; exact this
  have hcm := h.2.2.1
  have hnc := h.2.1
  unfold maxLen at hcm
  have H := Lib.hid h
  have HL := Lib.hid hl
  clear h hl
  go_enter Try.func85, Try.ntmps85
  go_wp2
  go_loopw [1, 5] (fun kk i wr => ∃ k : Nat, k ≤ n ∧ i = .int .i64 k ∧ kk = .int .i64 (k0 + (sumL (xs.take k) : Nat)) ∧ Below w.heap.size w wr) (fun _ i _ => n - (intOf i).toNat)
  case atStart => exact ⟨0, Nat.zero_le _, rfl, by simp [sumL], Below.refl _ _⟩
  case round =>
    obtain ⟨k, hk', rfl, rfl, hb⟩ := hrel
    by_cases hlt : k < n
    · obtain ⟨b, off, x, u, rfl, hbb, hx, hu, hr⟩ := H.out.at_ hlt
      obtain ⟨y, hy⟩ : ∃ y, xs[k]? = some y := ⟨_, List.getElem?_eq_getElem (by have := HL.out; omega)⟩
      obtain rfl : x = markB (k0 + (sumL (xs.take k) : Nat)) y.length := by rw [markBB_get k0 xs k y hy] at hx; injection hx with e; exact e.symm
      have g1 := (hb.cell (p := ⟨b, off + k, none⟩) hbb).trans hu
      have r1 := Rd_reads RB_reads _ _ _ _ hr hb
      have hsum := sumL_take_succ xs k y hy
      have hsle := sumL_take_le xs (k + 1)
      have HS := Lib.hid hsum
      rw [hsum] at hsle
      clear hu hx hy hsum hr
      go_wp2_with fail
      refine (held_bytes _ y _ _ r1 (by omega) (by omega)).mono ?_
      rintro e w1 ⟨rfl, bb⟩
      have hb2 := hb.trans (bb.mono hb.size)
      clear bb r1
      go_wp2
      go_roundw
      case rel => exact ⟨k + 1, by omega, by go_num, by rw [HS.out]; go_num, hb2⟩
      case measure => simp [intOf]; omega
    · go_wp2
      go_ret
      have hkn : k = n := by omega
      subst hkn
      exact ⟨ret_int (by rw [List.take_of_length_le (by have := HL.out; omega)]), hb⟩
def OII : FRel (List (List Int)) := Own 24 (Own 3 FI)
theorem OII_good : Good OII := Own_good (Own_good FI_good)
theorem rd_intss {lo hi : Nat} {w : World} {v : Value} {xs : List (List Int)} (h : Iv OII lo hi w v xs) : Rd (Rd RI) w v xs := Iv.rd (E := 24) (R := Own 3 FI) h (fun j => j.rd (fun k => k.ri))

def markII : Int → List (List Int) → List (List Int)
  | _, [] => []
  | k, xs :: xss => markI k xs.length :: markII (k + xs.length) xss
theorem markII_snoc (k : Int) (l : List (List Int)) (x : List Int) : markII k (l ++ [x]) = markII k l ++ [markI (k + (sumL l : Nat)) x.length] := by
  induction l generalizing k with
  | nil => simp [markII, sumL]
  | cons y l ih => simp [markII, ih, sumL, Int.add_assoc]
theorem markII_len (k : Int) (l : List (List Int)) : (markII k l).length = l.length := by
  induction l generalizing k with
  | nil => rfl
  | cons y l ih => simp [markII, ih]
theorem markII_get (k : Int) (l : List (List Int)) (j : Nat) (x : List Int) (h : l[j]? = some x) : (markII k l)[j]? = some (markI (k + (sumL (l.take j) : Nat)) x.length) := by
  induction l generalizing k j with
  | nil => simp at h
  | cons y l ih =>
    cases j with
    | zero => simp at h; subst h; simp [markII, sumL]
    | succ j =>
      simp at h
      have := ih (k + y.length) j h
      simp only [markII, List.getElem?_cons_succ, this, List.take_succ_cons]
      congr 2
      simp [sumL]; omega
theorem sumL_markII (k : Int) (l : List (List Int)) : sumL (markII k l) = sumL l := by
  induction l generalizing k with
  | nil => rfl
  | cons y l ih => have := ih (k + y.length); simp [markII, sumL, markI] at this ⊢; omega

theorem mark_intsF (v : Value) (xs : List Int) (F : List Nat) (k0 : Int) (w : World) (h : Own 3 FI w v xs F) (hk0 : 0 ≤ k0) (hk : k0 + xs.length ≤ 4611686018427387904) :
    Calls Try.prog 40 #[v, .int .i64 k0] w fun e w' => e = .returned (.int .i64 (k0 + xs.length)) ∧ Own 3 FI w' v (markI k0 xs.length) F ∧ Only F w w' := by
  obtain ⟨h1, rfl⟩ := Own_flatI.1 h
  cases hv : v.ownBlock with
  | none =>
    have hi : Iv (Own 3 FI) 0 0 w v xs := ⟨_, h, by rw [hv]; simp, by rw [hv]; simp⟩
    refine (mark_ints 0 0 v xs k0 w hi hk0 hk).mono ?_
    rintro e w' ⟨rfl, ⟨F', f1, _, _⟩, c⟩
    obtain ⟨f2, rfl⟩ := Own_flatI.1 f1
    rw [hv] at f1
    exact ⟨rfl, f1, c.os, c.tape, c.output, c.size, fun k hk' _ => c.block k hk' (by omega)⟩
  | some g =>
    have hi : Iv (Own 3 FI) g (g + 1) w v xs := ⟨_, h, by rw [hv]; simp, by rw [hv]; simp⟩
    refine (mark_ints g (g + 1) v xs k0 w hi hk0 hk).mono ?_
    rintro e w' ⟨rfl, ⟨F', f1, _, _⟩, c⟩
    obtain ⟨f2, rfl⟩ := Own_flatI.1 f1
    rw [hv] at f1
    exact ⟨rfl, f1, c.only⟩





end Go.Proofs.Ytokhogdocaeelaa
