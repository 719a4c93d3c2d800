/- MakeQuery and ShareBytes of both sides. -/
import Derived.Test.YtceogegjghmonaaPair
import Derived.Test.YtceogegjghmonaaJq
import Derived.Test.YtceogegjghmonaaCnt
import Derived.Test.YtceogegjghmonaaComb
namespace Go.Proofs.Ytceogegjghmonaa
set_option linter.unusedVariables false
open Go.RowKit

def mqOk (r i : Int) (seeds : List Int) : Bool := unitOk r i && decide (1 ≤ seeds.length ∧ seeds.length ≤ 3)
def rands (r : Int) (seeds : List Int) : List (List Int) := seeds.map (fun s => randSel s r)
def mq (r i : Int) (seeds : List Int) : List (List Int) := if mqOk r i seeds then rands r seeds ++ [foldSel (unitSel r i) (rands r seeds)] else []
theorem rands_snoc (r : Int) (l : List Int) (s : Int) : rands r (l ++ [s]) = rands r l ++ [randSel s r] := by simp [rands]
theorem rands_sum (r : Int) (l : List Int) : sumL (rands r l) ≤ 64 * l.length := by
  induction l with
  | nil => simp [rands, sumL]
  | cons s l ih =>
    have := randSel_len s r
    simp [rands, sumL] at *
    omega
theorem sumL_append {α : Type} (a b : List (List α)) : sumL (a ++ b) = sumL a + sumL b := by simp [sumL]
theorem mq_sum (r i : Int) (seeds : List Int) : sumL (mq r i seeds) ≤ 256 := by
  unfold mq
  split
  · rename_i h
    unfold mqOk at h
    rw [Bool.and_eq_true] at h
    have h2 := of_decide_eq_true h.2
    have h3 := rands_sum r seeds
    have h4 := foldSel_len (unitSel r i) (rands r seeds)
    have h5 := unitSel_len r i
    rw [sumL_append]
    simp [sumL] at *
    omega
  · simp [sumL]
set_option maxHeartbeats 4000000 in
set_option maxRecDepth 100000 in
theorem specMq_c (v : Value) (seeds : List Int) (r i : Int) (w : World) (h : Rd RI w v seeds) (hns : seeds.length ≤ 1048576) (h1 : -9223372036854775808 ≤ i) (h2 : i ≤ 9223372036854775807) (h3 : -9223372036854775808 ≤ r) (h4 : r ≤ 9223372036854775807) :
    Calls Try.prog 81 #[.int .i64 r, .int .i64 i, v] w fun e w' => ∃ v', e = .returned v' ∧ Fresh OII w w' v' (mq r i seeds) := by
  obtain ⟨A, n, c, rfl, h'⟩ := h
  obtain rfl := h'.1
  have h : Rd RI w (.slice A seeds.length c) seeds := ⟨_, _, _, rfl, h'⟩
  have hcm := Nat.le_trans h'.2.1 h'.2.2.1
  unfold maxLen at hcm
  have H := Lib.hid h'
  clear h'
  have FE := Lib.hid (show Fresh OII w (w.alloc (.cells #[] 27)) (.slice (some ⟨w.heap.size, 0, none⟩) 0 0) [] from (NRow_lit (B := w.heap.size) w #[] (Nat.le_refl _) (by simp)).fresh_ (below_alloc w _) (Nat.le_refl _))
  have bE := below_alloc w (.cells #[] 27)
  have NE := Lib.hid (show NRow 27 (Own 3 FI) w.heap.size (w.alloc (.cells #[] 27)) (.slice (some ⟨w.heap.size, 0, none⟩) 0 0) 0 ([] : List (List Int)) [] from NRow_lit w #[] (Nat.le_refl _) (by simp))
  have R0 := Rd_reads RI_reads _ _ _ _ h bE
  clear h
  cases hu : unitOk r i with
  | false =>
    have e : mq r i seeds = [] := by unfold mq mqOk; rw [hu]; rfl
    rw [e]
    have HU := Lib.hid (unitSel_no hu)
    clear e hu
    go_enter Try.func81, Try.ntmps81
    go_wp2_with fail
    refine (specUnit_c _ _ _ h1 h2 h3 h4).mono ?_
    rintro e w1 ⟨v1, rfl, F⟩
    rw [HU.out] at F
    obtain ⟨A1, l1, c1, rfl, hR⟩ := (F.iv (Own_good FI_good)).rd (fun q => q.ri)
    obtain rfl : 0 = l1 := hR.1
    have F1 := Lib.hid (FE.out.step OII_good F.below)
    clear F hR
    go_wp2
    go_ret
    exact ⟨_, rfl, F1.out⟩
  | true =>
    have HP := Lib.hid (unitSel_pos hu)
    have HUL := Lib.hid (unitSel_len r i)
    by_cases hc : 1 ≤ seeds.length ∧ seeds.length ≤ 3
    · have e : mq r i seeds = rands r seeds ++ [foldSel (unitSel r i) (rands r seeds)] := by unfold mq mqOk; rw [hu, decide_eq_true hc]; rfl
      rw [e]
      have HC := Lib.hid hc
      have hc4 : seeds.length ≤ 3 := hc.2
      clear e hu hc
      go_enter Try.func81, Try.ntmps81
      go_wp2_with fail
      refine (specUnit_c _ _ _ h1 h2 h3 h4).mono ?_
      rintro e w1 ⟨v1s, rfl, F⟩
      obtain ⟨A1, l1, c1, rfl, hR⟩ := (F.iv (Own_good FI_good)).rd (fun q => q.ri)
      have hl1 : 1 ≤ l1 := by have := hR.1; have := HP.out; omega
      have hz : ((l1 : Int) == 0) = false := beq_eq_false_iff_ne.2 (by omega)
      have hz2 : ¬ (l1 : Int) = 0 := by omega
      have hz3 : 0 < l1 := by omega
      have FH := Lib.hid F
      have T1 := bE.trans (F.below.mono bE.size)
      have P0 := Lib.hid (Pair_fresh (Own_good FI_good) NE.out FH.out bE.size)
      clear F hR
      go_wp2_with fail
      refine (sCnt_t _ _ (by have := HC.out; omega) (by have := HC.out; omega)).mono ?_
      rintro e w2 ⟨rfl, rfl⟩
      go_wp2
      go_loopw [7, 8, 9] (fun o l' i' wr => ∃ (k : Nat) (vl vo : Value), k ≤ seeds.length ∧ i' = .int .i64 k ∧ l' = vl ∧ o = vo ∧ Hid (Pair 27 (Own 3 FI) w.heap.size wr vo k (rands r (seeds.take k)) vl (foldSel (unitSel r i) (rands r (seeds.take k)))) ∧ Below w.heap.size w wr) (fun _ _ i' _ => seeds.length - (intOf i').toNat)
      case atStart => exact ⟨0, _, _, Nat.zero_le _, rfl, rfl, rfl, P0, T1⟩
      case round =>
        obtain ⟨k, vl, vo, hk, rfl, hvl, hvo, PR, Tr⟩ := hrel
        subst hvl hvo
        have RL := Lib.hid (Own.rd PR.out.read.choose_spec (fun q => q.ri) : Rd RI wr _ (foldSel (unitSel r i) (rands r (seeds.take k))))
        obtain ⟨Al, ll, cl, rfl, _⟩ := id RL.out
        have HFL := Lib.hid (foldSel_len (unitSel r i) (rands r (seeds.take k)))
        have hfl : (foldSel (unitSel r i) (rands r (seeds.take k))).length ≤ 1048576 := by have := HFL.out; have := HUL.out; omega
        obtain ⟨cells, F0, Fl, p1, p2, p3, p4, p5⟩ := PR.out
        obtain ⟨Ao, lo, co, rfl⟩ := own_shape p1
        have K := Lib.hid (show wr.ownsRow 0 27 1 (.slice Ao lo co) k cells ∧ AllR (Own 3 FI) wr cells (rands r (seeds.take k)) F0 ∧ ((Value.slice Ao lo co).ownBlock.toList ++ F0).Nodup ∧ (∀ b, b ∈ (Value.slice Ao lo co).ownBlock.toList ++ F0 → w.heap.size ≤ b) from by
          rw [← List.append_assoc] at p4
          exact ⟨p1, p2, (List.nodup_append.1 p4).1, fun b hb => p5 b (by rw [← List.append_assoc]; exact List.mem_append_left _ hb)⟩)
        have KP := Lib.hid (And.intro p3 (And.intro p4 p5))
        clear p1 p2 p3 p4 p5 PR
        by_cases hlt : k < seeds.length
        · obtain ⟨b, off, s, u, rfl, hbb, hx, hu, hr⟩ := H.out.at_ hlt
          unfold RI at hr
          subst hr
          have g1 := (Tr.cell (p := ⟨b, off + k, none⟩) hbb).trans hu
          have HS1 : Hid (rands r (seeds.take (k + 1)) = rands r (seeds.take k) ++ [randSel s r]) := Lib.hid (by rw [take_succ_get seeds k s hx, rands_snoc])
          have HS2 : Hid (foldSel (unitSel r i) (rands r (seeds.take k) ++ [randSel s r]) = xorSel (foldSel (unitSel r i) (rands r (seeds.take k))) (randSel s r)) := Lib.hid (foldSel_snoc _ _ _)
          clear hx hu
          go_wp2_with fail
          refine (specRand_c _ r _ h3 h4).mono ?_
          rintro e w2 ⟨v2, rfl, F2⟩
          obtain ⟨A2, l2, c2, rfl⟩ := fresh_slice F2
          have r2 := (F2.iv (Own_good FI_good)).rd (fun q => q.ri)
          have rl := Rd_reads RI_reads _ _ _ _ RL.out F2.below
          have T2 := Tr.trans (F2.below.mono Tr.size)
          have FV := Lib.hid F2
          clear F2
          go_wp2_with fail
          refine (specXorSel_c _ _ _ _ _ rl r2 (by omega)).mono ?_
          rintro e w3 ⟨v3, rfl, F3⟩
          have T3 := T2.trans (F3.below.mono T2.size)
          have KW := Lib.hid (ownsRow_at (w' := w3) K.out.1 (fun b hb' => by
            have q := (K.out.1.lt b (by simpa using hb')).2
            rw [F3.below.block b (by have := FV.out.below.size; omega), FV.out.below.block b q]))
          have FL := Lib.hid F3
          clear F3 rl r2
          go_wp2_with (at_builtin; refine wpList_app elII rfl (.tmp 41) (.tmp 43) rfl _ k cells rfl (KW.out.alloc _) (some ⟨w3.heap.size, 0, none⟩) 1 1 [.slice A2 l2 c2] rfl (Src_one _ _ _) (one_single _ rfl) (by simp only [maxLen]; omega) (by omega) ?_; intro v4 w4 hown hg hat)
          have PP := Lib.hid (Pair_app (Own_good FI_good) K.out.1 K.out.2.1 K.out.2.2.1 K.out.2.2.2 Tr.size FV.out FL.out hown hg hat)
          have T4 := NRow.app_below (w1 := w3) T3 T3.size (fun b hb' => K.out.2.2.2 b (List.mem_append_left _ (by have hq : (Value.slice Ao lo co).ownBlock = some b := hb'; rw [hq]; simp))) hg
          clear hown hg hat
          go_roundw
          case rel => exact ⟨k + 1, _, _, by omega, by go_num, rfl, rfl, Lib.hid (by rw [HS1.out, HS2.out]; exact PP.out), T4⟩
          case measure => simp [intOf]; omega
        · have hkn : k = seeds.length := by omega
          subst hkn
          have hfin : rands r (seeds.take seeds.length) = rands r seeds := by rw [List.take_of_length_le (Nat.le_refl _)]
          have HFIN := Lib.hid hfin
          clear hfin
          go_wp2_with (at_builtin; refine wpList_app elII rfl (.tmp 45) (.tmp 47) rfl _ seeds.length cells rfl (K.out.1.alloc _) (some ⟨wr.heap.size, 0, none⟩) 1 1 [.slice Al ll cl] rfl (Src_one _ _ _) (one_single _ rfl) (by simp only [maxLen]; omega) (by omega) ?_; intro v4 w4 hown hg hat)
          have NF := Pair.push (Own_good FI_good) K.out.1 K.out.2.1 KP.out.1 KP.out.2.1 KP.out.2.2 Tr.size hown hg hat
          rw [HFIN.out] at NF
          have T4 := NRow.app_below (w1 := wr) Tr Tr.size (fun b hb' => K.out.2.2.2 b (List.mem_append_left _ (by have hq : (Value.slice Ao lo co).ownBlock = some b := hb'; rw [hq]; simp))) hg
          have FF := Lib.hid (show Fresh OII w w4 v4 (rands r seeds ++ [foldSel (unitSel r i) (rands r seeds)]) from NF.fresh_ T4 (Nat.le_refl _))
          clear hown hg hat NF
          go_ret
          exact ⟨_, rfl, FF.out⟩
    · have e : mq r i seeds = [] := by unfold mq mqOk; rw [hu, decide_eq_false hc]; rfl
      rw [e]
      have HC := Lib.hid hc
      clear e hu hc
      go_enter Try.func81, Try.ntmps81
      go_wp2_with fail
      refine (specUnit_c _ _ _ h1 h2 h3 h4).mono ?_
      rintro e w1 ⟨v1, rfl, F⟩
      obtain ⟨A1, l1, c1, rfl, hR⟩ := (F.iv (Own_good FI_good)).rd (fun q => q.ri)
      have hl1 : 1 ≤ l1 := by have := hR.1; have := HP.out; omega
      have hz : ((l1 : Int) == 0) = false := beq_eq_false_iff_ne.2 (by omega)
      have hz2 : ¬ (l1 : Int) = 0 := by omega
      have hz3 : 0 < l1 := by omega
      have F1 := Lib.hid (FE.out.step OII_good F.below)
      clear F hR
      go_wp2_with fail
      refine (sCnt_f _ _ (fun q => HC.out (by omega))).mono ?_
      rintro e w2 ⟨rfl, rfl⟩
      go_wp2
      go_ret
      exact ⟨_, rfl, F1.out⟩
set_option maxHeartbeats 4000000 in
set_option maxRecDepth 100000 in
theorem implMq_c (v : Value) (seeds : List Int) (r i : Int) (w : World) (h : Rd RI w v seeds) (hns : seeds.length ≤ 1048576) (h1 : -9223372036854775808 ≤ i) (h2 : i ≤ 9223372036854775807) (h3 : -9223372036854775808 ≤ r) (h4 : r ≤ 9223372036854775807) :
    Calls Try.prog 17 #[.int .i64 r, .int .i64 i, v] w fun e w' => ∃ v', e = .returned v' ∧ Fresh OII w w' v' (mq r i seeds) := by
  obtain ⟨A, n, c, rfl, h'⟩ := h
  obtain rfl := h'.1
  have h : Rd RI w (.slice A seeds.length c) seeds := ⟨_, _, _, rfl, h'⟩
  have hcm := Nat.le_trans h'.2.1 h'.2.2.1
  unfold maxLen at hcm
  have H := Lib.hid h'
  clear h'
  have bE := Below.refl w.heap.size w
  have R0 := h
  clear h
  cases hu : unitOk r i with
  | false =>
    have e : mq r i seeds = [] := by unfold mq mqOk; rw [hu]; rfl
    rw [e]
    have HU := Lib.hid (unitSel_no hu)
    clear e hu
    go_enter Try.func17, Try.ntmps17
    go_wp2_with fail
    refine (implUnit_c _ _ _ h1 h2 h3 h4).mono ?_
    rintro e w1 ⟨v1, rfl, F⟩
    rw [HU.out] at F
    obtain ⟨A1, l1, c1, rfl, hR⟩ := (F.iv (Own_good FI_good)).rd (fun q => q.ri)
    obtain rfl : 0 = l1 := hR.1
    have F1 := Lib.hid (show Fresh OII w w1 (.slice none 0 0) [] from (NRow_nil (B := w.heap.size) _).fresh_ F.below (Nat.le_refl _))
    clear F hR
    go_wp2
    go_ret
    exact ⟨_, rfl, F1.out⟩
  | true =>
    have HP := Lib.hid (unitSel_pos hu)
    have HUL := Lib.hid (unitSel_len r i)
    by_cases hc : 1 ≤ seeds.length ∧ seeds.length ≤ 3
    · have e : mq r i seeds = rands r seeds ++ [foldSel (unitSel r i) (rands r seeds)] := by unfold mq mqOk; rw [hu, decide_eq_true hc]; rfl
      rw [e]
      have HC := Lib.hid hc
      have hc4 : seeds.length ≤ 3 := hc.2
      clear e hu hc
      go_enter Try.func17, Try.ntmps17
      go_wp2_with fail
      refine (implUnit_c _ _ _ h1 h2 h3 h4).mono ?_
      rintro e w1 ⟨v1s, rfl, F⟩
      obtain ⟨A1, l1, c1, rfl, hR⟩ := (F.iv (Own_good FI_good)).rd (fun q => q.ri)
      have hl1 : 1 ≤ l1 := by have := hR.1; have := HP.out; omega
      have hz : ((l1 : Int) == 0) = false := beq_eq_false_iff_ne.2 (by omega)
      have hz2 : ¬ (l1 : Int) = 0 := by omega
      have hz3 : 0 < l1 := by omega
      have FH := Lib.hid F
      have T1 := bE.trans (F.below.mono bE.size)
      have P0 := Lib.hid (Pair_lit (E := 27) (Own_good FI_good) FH.out)
      clear F hR
      go_wp2_with fail
      refine (iCnt_t _ _ (by have := HC.out; omega) (by have := HC.out; omega)).mono ?_
      rintro e w2 ⟨rfl, rfl⟩
      go_wp2
      go_loopw [8, 7, 28] (fun o l' i' wr => ∃ (k : Nat) (vl vo : Value), k ≤ seeds.length ∧ i' = .int .i64 k ∧ l' = vl ∧ o = vo ∧ Hid (Pair 27 (Own 3 FI) w.heap.size wr vo k (rands r (seeds.take k)) vl (foldSel (unitSel r i) (rands r (seeds.take k)))) ∧ Below w.heap.size w wr) (fun _ _ i' _ => seeds.length - (intOf i').toNat)
      case atStart => exact ⟨0, _, _, Nat.zero_le _, rfl, rfl, rfl, P0, T1.alloc T1.size _⟩
      case round =>
        obtain ⟨k, vl, vo, hk, rfl, hvl, hvo, PR, Tr⟩ := hrel
        subst hvl hvo
        have RL := Lib.hid (Own.rd PR.out.read.choose_spec (fun q => q.ri) : Rd RI wr _ (foldSel (unitSel r i) (rands r (seeds.take k))))
        obtain ⟨Al, ll, cl, rfl, _⟩ := id RL.out
        have HFL := Lib.hid (foldSel_len (unitSel r i) (rands r (seeds.take k)))
        have hfl : (foldSel (unitSel r i) (rands r (seeds.take k))).length ≤ 1048576 := by have := HFL.out; have := HUL.out; omega
        obtain ⟨cells, F0, Fl, p1, p2, p3, p4, p5⟩ := PR.out
        obtain ⟨Ao, lo, co, rfl⟩ := own_shape p1
        have K := Lib.hid (show wr.ownsRow 0 27 1 (.slice Ao lo co) k cells ∧ AllR (Own 3 FI) wr cells (rands r (seeds.take k)) F0 ∧ ((Value.slice Ao lo co).ownBlock.toList ++ F0).Nodup ∧ (∀ b, b ∈ (Value.slice Ao lo co).ownBlock.toList ++ F0 → w.heap.size ≤ b) from by
          rw [← List.append_assoc] at p4
          exact ⟨p1, p2, (List.nodup_append.1 p4).1, fun b hb => p5 b (by rw [← List.append_assoc]; exact List.mem_append_left _ hb)⟩)
        have KP := Lib.hid (And.intro p3 (And.intro p4 p5))
        clear p1 p2 p3 p4 p5 PR
        by_cases hlt : k < seeds.length
        · obtain ⟨b, off, s, u, rfl, hbb, hx, hu, hr⟩ := H.out.at_ hlt
          unfold RI at hr
          subst hr
          have g1 := (Tr.cell (p := ⟨b, off + k, none⟩) hbb).trans hu
          have HS1 : Hid (rands r (seeds.take (k + 1)) = rands r (seeds.take k) ++ [randSel s r]) := Lib.hid (by rw [take_succ_get seeds k s hx, rands_snoc])
          have HS2 : Hid (foldSel (unitSel r i) (rands r (seeds.take k) ++ [randSel s r]) = xorSel (foldSel (unitSel r i) (rands r (seeds.take k))) (randSel s r)) := Lib.hid (foldSel_snoc _ _ _)
          clear hx hu
          go_wp2_with fail
          refine (implRand_c _ r _ h3 h4).mono ?_
          rintro e w2 ⟨v2, rfl, F2⟩
          obtain ⟨A2, l2, c2, rfl⟩ := fresh_slice F2
          have T2 := Tr.trans (F2.below.mono Tr.size)
          have KW := Lib.hid (ownsRow_at (w' := w2) K.out.1 (fun b hb' => F2.below.block b (K.out.1.lt b (by simpa using hb')).2))
          have FV := Lib.hid F2
          clear F2
          go_wp2_with (at_builtin; refine wpList_app elII rfl (.tmp 35) (.tmp 37) rfl _ k cells rfl (KW.out.alloc _) (some ⟨w2.heap.size, 0, none⟩) 1 1 [.slice A2 l2 c2] rfl (Src_one _ _ _) (one_single _ rfl) (by simp only [maxLen]; omega) (by omega) ?_; intro v4 w4 hown hg hat)
          have PP := Pair_app2 (Own_good FI_good) K.out.1 K.out.2.1 KP.out.1 KP.out.2.1 KP.out.2.2 Tr.size FV.out hown hg hat
          have T4 := NRow.app_below (w1 := w2) T2 T2.size (fun b hb' => K.out.2.2.2 b (List.mem_append_left _ (by have hq : (Value.slice Ao lo co).ownBlock = some b := hb'; rw [hq]; simp))) hg
          obtain ⟨A4, l4, c4, rfl⟩ := own_shape hown
          have rl : Rd RI w4 (.slice Al ll cl) (foldSel (unitSel r i) (rands r (seeds.take k))) := Own.rd PP.2.1.choose_spec (fun q => q.ri)
          have r2 : Rd RI w4 (.slice A2 l2 c2) (randSel s r) := Own.rd PP.2.2.choose_spec (fun q => q.ri)
          have NR := Lib.hid PP.1
          clear hown hg hat PP
          go_wp2_with fail
          refine (implXorSel_c _ _ _ _ _ rl r2 (by omega)).mono ?_
          rintro e w3 ⟨v3, rfl, F3⟩
          have T5 := T4.trans (F3.below.mono T4.size)
          have P5 := Lib.hid (Pair_fresh (Own_good FI_good) NR.out F3 T4.size)
          clear F3 rl r2
          go_wp2
          go_roundw
          case rel => exact ⟨k + 1, _, _, by omega, by go_num, rfl, rfl, Lib.hid (by rw [HS1.out, HS2.out]; exact P5.out), T5⟩
          case measure => simp [intOf]; omega
        · have hkn : k = seeds.length := by omega
          subst hkn
          have hfin : rands r (seeds.take seeds.length) = rands r seeds := by rw [List.take_of_length_le (Nat.le_refl _)]
          have HFIN := Lib.hid hfin
          clear hfin
          go_wp2_with (at_builtin; refine wpList_app elII rfl (.tmp 43) (.tmp 45) rfl _ seeds.length cells rfl (K.out.1.alloc _) (some ⟨wr.heap.size, 0, none⟩) 1 1 [.slice Al ll cl] rfl (Src_one _ _ _) (one_single _ rfl) (by simp only [maxLen]; omega) (by omega) ?_; intro v4 w4 hown hg hat)
          have NF := Pair.push (Own_good FI_good) K.out.1 K.out.2.1 KP.out.1 KP.out.2.1 KP.out.2.2 Tr.size hown hg hat
          rw [HFIN.out] at NF
          have T4 := NRow.app_below (w1 := wr) Tr Tr.size (fun b hb' => K.out.2.2.2 b (List.mem_append_left _ (by have hq : (Value.slice Ao lo co).ownBlock = some b := hb'; rw [hq]; simp))) hg
          have FF := Lib.hid (show Fresh OII w w4 v4 (rands r seeds ++ [foldSel (unitSel r i) (rands r seeds)]) from NF.fresh_ T4 (Nat.le_refl _))
          clear hown hg hat NF
          go_ret
          exact ⟨_, rfl, FF.out⟩
    · have e : mq r i seeds = [] := by unfold mq mqOk; rw [hu, decide_eq_false hc]; rfl
      rw [e]
      have HC := Lib.hid hc
      clear e hu hc
      go_enter Try.func17, Try.ntmps17
      go_wp2_with fail
      refine (implUnit_c _ _ _ h1 h2 h3 h4).mono ?_
      rintro e w1 ⟨v1, rfl, F⟩
      obtain ⟨A1, l1, c1, rfl, hR⟩ := (F.iv (Own_good FI_good)).rd (fun q => q.ri)
      have hl1 : 1 ≤ l1 := by have := hR.1; have := HP.out; omega
      have hz : ((l1 : Int) == 0) = false := beq_eq_false_iff_ne.2 (by omega)
      have hz2 : ¬ (l1 : Int) = 0 := by omega
      have hz3 : 0 < l1 := by omega
      have F1 := Lib.hid (show Fresh OII w w1 (.slice none 0 0) [] from (NRow_nil (B := w.heap.size) _).fresh_ F.below (Nat.le_refl _))
      clear F hR
      go_wp2_with fail
      refine (iCnt_f _ _ (fun q => HC.out (by omega))).mono ?_
      rintro e w2 ⟨rfl, rfl⟩
      go_wp2
      go_ret
      exact ⟨_, rfl, F1.out⟩
end Go.Proofs.Ytceogegjghmonaa
