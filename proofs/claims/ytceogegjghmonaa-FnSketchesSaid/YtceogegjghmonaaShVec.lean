/- ShareVector of both sides. -/
import Derived.Test.YtceogegjghmonaaShN
import Derived.Test.YtceogegjghmonaaRowAt
import Derived.Test.YtceogegjghmonaaKeep
import Derived.Deep.RegionHeld3
namespace Go.Proofs.Ytceogegjghmonaa
set_option linter.unusedVariables false
open Go.RowKit

theorem vecOk_of {v seeds : List Int} (h1 : v.length ≤ 64) (h2 : 1 ≤ seeds.length) (h3 : seeds.length ≤ 3) : vecOk v seeds = true := decide_eq_true ⟨h1, h2, h3⟩
theorem shVec_no {v seeds : List Int} (h : vecOk v seeds = false) : shVec v seeds = [] := by unfold shVec; rw [h]; rfl
theorem svS_take (seeds : List Int) (i : Int) (j : Nat) (x : Int) (h : seeds[j]? = some x) : svS (seeds.take (j + 1)) i = svS (seeds.take j) i ++ [seedAt i x] := by
  unfold svS
  rw [take_succ_get seeds j x h, List.map_append]
  rfl
theorem shV_get {v seeds : List Int} {i k : Nat} {n x : Int} (hn : v[i]? = some n) (hx : (shV n (svS seeds (i : Int)))[k]? = some x) : shAt v seeds k i = x := by
  unfold shAt
  simp [List.getD, hn, hx]
theorem AllR_nils {E : TypeId} (w : World) (n : Nat) : AllR (Own E FI) w (List.replicate n (.slice none 0 0)) (List.replicate n []) [] := by
  induction n with
  | zero => rfl
  | succ n ih => exact ⟨[], [], rfl, Own_flatI.2 ⟨World.ownsRow_nil _ _ _ _, rfl⟩, ih⟩
theorem NRow_nils {T E : TypeId} {B : Nat} (w : World) (n : Nat) (hB : B ≤ w.heap.size) (h : n ≤ maxLen) : NRow T (Own E FI) B (w.alloc (.cells (madeCells #[.slice none 0 0] n) T)) (.slice (some ⟨w.heap.size, 0, none⟩) n n) n (List.replicate n []) [] :=
  ⟨List.replicate n (.slice none 0 0), [], by simpa using own_made w (.slice none 0 0) n h, AllR_nils _ n, by simp [Value.ownBlock], by simp [Value.ownBlock]; exact hB⟩

set_option maxHeartbeats 800000 in
set_option maxRecDepth 100000 in
theorem implShVec_c (vv vs : Value) (v seeds : List Int) (w : World) (h : Rd RI w vv v) (h' : Rd RI w vs seeds) (hv : v.length ≤ 1048576) (hs : seeds.length ≤ 1048576) :
    Calls Try.prog 64 #[vv, vs] w fun e w' => ∃ v', e = .returned v' ∧ Fresh OII w w' v' (shVec v seeds) := by
  obtain ⟨A, m, c, rfl, k1⟩ := h
  obtain ⟨A2, m2, c2, rfl, k2⟩ := h'
  obtain rfl := k1.1
  obtain rfl := k2.1
  have HV := Lib.hid k1
  have HSD := Lib.hid k2
  have FN := Lib.hid (show Fresh OII w w (.slice none 0 0) [] from (NRow_nil (B := w.heap.size) w).fresh_ (Below.refl _ _) (Nat.le_refl _))
  clear k1 k2
  by_cases h64 : v.length ≤ 64
  · by_cases hc : 1 ≤ seeds.length ∧ seeds.length ≤ 3
    · have hok := vecOk_of h64 hc.1 hc.2
      have HOK := Lib.hid hok
      obtain ⟨p, hp⟩ : ∃ p, seeds.length = p := ⟨_, rfl⟩
      have hc1 := hc.1
      have hc3 := hc.2
      rw [hp] at hc1 hc3 hs HSD ⊢
      have HP := Lib.hid hp
      have hmk : ∀ W : World, (Instr.makeSlice 32 (.int .i64 ((p : Int) + 1)) (.int .i64 ((p : Int) + 1))).run Try.prog W = .ok (.slice (some ⟨W.heap.size, 0, none⟩) (p + 1) (p + 1)) (W.alloc (.cells (madeCells #[.slice none 0 0] (p + 1)) 27)) := fun W => by
        simpa using run_mk elII .i64 .i64 (p + 1) (by omega) (by omega) W
      have N0 := Lib.hid (show NRow 27 (Own 3 FI) w.heap.size (w.alloc (.cells (madeCells #[.slice none 0 0] (p + 1)) 27)) (.slice (some ⟨w.heap.size, 0, none⟩) (p + 1) (p + 1)) (p + 1) (shMix v seeds 0 0) [] from by
        rw [shMix_zero, hp]
        exact NRow_nils w (p + 1) (Nat.le_refl _) (by simp only [maxLen]; omega))
      have B0 := Lib.hid (below_alloc w (.cells (madeCells #[.slice none 0 0] (p + 1)) 27))
      clear hok hc hp
      go_enter Try.func64, Try.ntmps64
      go_wp2_with fail
      refine (iCnt_t _ _ (by omega) (by omega)).mono ?_
      rintro e w' ⟨rfl, rfl⟩
      go_wp2
      go_loopw [29] (fun i wr => ∃ k : Nat, k ≤ v.length ∧ i = .int .i64 k ∧ Hid (NRow 27 (Own 3 FI) w.heap.size wr (.slice (some ⟨w.heap.size, 0, none⟩) (p + 1) (p + 1)) (p + 1) (shMix v seeds k 0) [] ∧ Below w.heap.size w wr)) (fun i _ => v.length - (intOf i).toNat)
      case atStart => exact ⟨0, Nat.zero_le _, rfl, Lib.hid ⟨N0.out, B0.out⟩⟩
      case round =>
        obtain ⟨i, hi, rfl, HH⟩ := hrel
        rename World => wo
        clear N0 B0
        by_cases hlt : i < v.length
        · obtain ⟨b, off, x, u, rfl, hbb, hx, hu, hr⟩ := HV.out.at_ hlt
          unfold RI at hr
          subst hr
          have g1 := (HH.out.2.cell (p := ⟨b, off + i, none⟩) hbb).trans hu
          have HX := Lib.hid hx
          have hk0 : (0 : Int) ≤ (i : Int) := by omega
          have hkn : (i : Int) < (v.length : Int) := by omega
          have R0 := Lib.hid (Row_lit (E := 3) (B := wo.heap.size) wo #[] (Nat.le_refl _) (by simp))
          have B1 := Lib.hid (below_alloc wo (.cells #[] 3))
          clear hx hu
          go_wp2
          clear g1
          go_loopw [8, 37] (fun o l w1 => ∃ j : Nat, j ≤ p ∧ l = .int .i64 j ∧ Hid (Row 3 wo.heap.size w1 o j ((svS (seeds.take j) (i : Int)).map fun x => Value.int .i64 x) ∧ Below wo.heap.size wo w1)) (fun _ l _ => p - (intOf l).toNat)
          case atStart => exact ⟨0, Nat.zero_le _, rfl, Lib.hid ⟨R0.out, B1.out⟩⟩
          case round =>
            obtain ⟨j, hj, rfl, HS⟩ := hrel
            clear R0 B1
            by_cases hlt2 : j < p
            · obtain ⟨b2, off2, s, us, rfl, hbb2, hs2, hus, hrs⟩ := HSD.out.at_ hlt2
              unfold RI at hrs
              subst hrs
              have g2 := ((HH.out.2.trans (HS.out.2.mono HH.out.2.size)).cell (p := ⟨b2, off2 + j, none⟩) hbb2).trans hus
              have HT := Lib.hid (svS_take seeds (i : Int) j s hs2)
              have hj0 : (0 : Int) ≤ (j : Int) := by omega
              have hjn : (j : Int) < (p : Int) := by omega
              have hSA : seedAt (i : Int) s = wrap64 (s + 77 * (i : Int)) := rfl
              have HSA := Lib.hid hSA
              clear hs2 hus hSA
              go_wp2_with (at_builtin; refine wpList_app elI rfl (.tmp 41) (.tmp 46) rfl _ j _ rfl (HS.out.1.1.alloc _) (some ⟨wr.heap.size, 0, none⟩) 1 1 [.int .i64 (wrap64 (s + 77 * (i : Int)))] rfl (Src_one _ _ _) (one_single _ rfl) (by simp only [maxLen]; omega) (by omega) ?_; intro v2 w2 hown hg hat)
              have P := HS.out.1.app HS.out.2 HS.out.2.size hown hg hat
              have PH := Lib.hid P
              clear hown hg hat P
              go_roundw
              case rel => exact ⟨j + 1, by omega, by go_num, Lib.hid (by rw [HT.out, HSA.out, List.map_append]; exact PH.out)⟩
              case measure => simp [intOf]; omega
            · obtain rfl : p = j := by omega
              have hT : seeds.take p = seeds := by rw [← HP.out]; exact List.take_length
              obtain ⟨As, ls, cs, rfl⟩ := own_shape HS.out.1.1
              have HSR := HS.out.1.1
              rw [hT] at HSR
              have rs := rd_rowI HSR rfl
              have HS1 := Lib.hid HSR
              have HSB := Lib.hid HS.out.2
              have shok : shOk (svS seeds (i : Int)) = true := by
                unfold shOk
                rw [svS_len, HP.out]
                exact decide_eq_true ⟨hc1, hc3⟩
              have hsn := implShN_c x _ (svS seeds (i : Int)) wr rs (by rw [svS_len, HP.out]; omega)
              rw [shN_yes shok] at hsn
              have hl1 : (shV x (svS seeds (i : Int))).length = p + 1 := by rw [shV_len, svS_len, HP.out]
              have HL1 := Lib.hid hl1
              clear hT HSR rs HS shok hl1
              go_wp2_with fail
              refine hsn.mono ?_
              rintro e w3 ⟨v3, rfl, F3⟩
              obtain ⟨Ah, lh, ch, rfl⟩ := fresh_slice F3
              have r3 := (F3.iv (Own_good FI_good)).rd (R' := RI) (fun q => q.ri)
              obtain rfl : p + 1 = lh := by have := r3.at_same.1; have := HL1.out; omega
              obtain ⟨bs, os, rfl, hbs, hcs⟩ := r3.at_same.2.2.2 (by omega)
              have hbs2 : wr.heap.size ≤ bs := by
                obtain ⟨F, f1, f2, f3, f4⟩ := F3
                obtain ⟨k1, rfl⟩ := Own_flatI.1 f1
                exact f3 bs (by simp [Value.ownBlock])
              have B13 := HSB.out.trans (F3.below.mono HSB.out.size)
              have hso := HSB.out.size
              have NQ0 := Lib.hid ((HH.out.1.nrq (Q := fun b => w.heap.size ≤ b ∧ b ≠ bs) (Own_good FI_good) (fun b hb hlt => ⟨hb, fun e => by omega⟩)).below (Own_good FI_good) B13)
              have HCS := Lib.hid hcs
              clear F3 hcs r3 hsn
              have hbw3 : bs < w3.heap.size := hbs
              have hgw3 : w.heap.size < w3.heap.size := by obtain ⟨_, _, k1, _⟩ := NQ0.out; exact (k1.lt w.heap.size rfl).2
              go_wp2
              go_loopw [53] (fun l wr => ∃ k : Nat, k ≤ p + 1 ∧ l = .int .i64 k ∧ Hid (NRQ 27 (Own 3 FI) (fun b => w.heap.size ≤ b ∧ b ≠ bs) wr (.slice (some ⟨w.heap.size, 0, none⟩) (p + 1) (p + 1)) (p + 1) (shMix v seeds i k) ∧ KeepQ (fun b => w.heap.size ≤ b ∧ b ≠ bs) w3 wr)) (fun l _ => p + 1 - (intOf l).toNat)
              case atStart => exact ⟨0, Nat.zero_le _, rfl, Lib.hid ⟨NQ0.out, KeepQ.refl _ _⟩⟩
              case round =>
                obtain ⟨k, hk, rfl, HN⟩ := hrel
                by_cases hlt3 : k < p + 1
                · obtain ⟨y, u, hy, hu0, hru⟩ : ∃ y u, (shV x (svS seeds (i : Int)))[k]? = some y ∧ w3.cell? ⟨bs, os + k, none⟩ = some u ∧ RI w3 u y := by
                    have hkl : k < (shV x (svS seeds (i : Int))).length := by rw [HL1.out]; exact hlt3
                    obtain ⟨u, h1, h2⟩ := HCS.out k _ (List.getElem?_eq_getElem hkl)
                    exact ⟨_, u, List.getElem?_eq_getElem hkl, h1, h2⟩
                  unfold RI at hru
                  subst hru
                  have hcell : wr.cell? ⟨bs, os + k, none⟩ = some (.int .i64 y) := by
                    rw [← hu0]
                    unfold World.cell?
                    rw [HN.out.2.block bs hbw3 (fun q => q.2 rfl)]
                  have hmg := shMix_get v seeds i k (by rw [HP.out]; exact hlt3)
                  obtain ⟨u, q1, q2, q3, q4, q5, q6, q7, _⟩ := HN.out.1.rowAtI hmg
                  have HMS : Hid ((shMix v seeds i k).set k (shRow v seeds i k ++ [y]) = shMix v seeds i (k + 1)) := Lib.hid (by
                    rw [← shMix_set v seeds i k (by rw [HP.out]; exact hlt3), shV_get HX.out hy])
                  have Q4 := Lib.hid q4
                  have Q5 := Lib.hid q5
                  have Q6 := Lib.hid q6
                  have Q7 := Lib.hid q7
                  have hrl := shRow_len v seeds i k
                  have HRL := Lib.hid hrl
                  obtain ⟨Au, lu, cu, rfl⟩ := own_shape q4
                  have hk0' : (0 : Int) ≤ (k : Int) := by omega
                  have hkn' : (k : Int) < (p : Int) + 1 := by omega
                  clear hmg hu0 hy q4 q5 q6 q7 hrl
                  go_wp2_with (at_builtin; refine wpList_app elI rfl (.tmp 63) (.tmp 65) rfl _ (shRow v seeds i k).length _ rfl (Q4.out.alloc _) (some ⟨wr.heap.size, 0, none⟩) 1 1 [.int .i64 y] rfl (Src_one _ _ _) (one_single _ rfl) (by rw [HRL.out]; simp only [maxLen]; omega) (by rw [HRL.out]; omega) ?_; intro v5 w5 hown hg hat; have ne5 : some w.heap.size ≠ (Value.slice Au lu cu).ownBlock := (fun e => (Q5.out _ e.symm).2 rfl); have c5 : w5.cell? ⟨w.heap.size, k, none⟩ = some (.slice Au lu cu) := ((World.cell?_of_block (a := ⟨w.heap.size, k, none⟩) (hg.block w.heap.size (by simp; omega) ne5)).trans ((World.cell?_of_block (a := ⟨w.heap.size, k, none⟩) (Below.heap_alloc wr _ w.heap.size q3)).trans q1)); have f5 : w5.frozen? ⟨w.heap.size, k, none⟩ = false := ((World.frozen?_of_block (a := ⟨w.heap.size, k, none⟩) (hg.block w.heap.size (by simp; omega) ne5)).trans ((World.frozen?_of_block (a := ⟨w.heap.size, k, none⟩) (Below.heap_alloc wr _ w.heap.size q3)).trans q2)); obtain ⟨A5, l5, c5', rfl⟩ := own_shape hown)
                  have hsz := HN.out.2.size
                  have N5 := Q7.out _ _ _ y (fun b hb => ⟨by omega, by omega⟩) hown hg hat
                  rw [HMS.out] at N5
                  have K5 := (HN.out.2.grow hg (fun b hb => (Q5.out b hb).1)).set (p := ⟨w.heap.size, k, none⟩) (Q6.out) (.slice A5 l5 c5')
                  have HF := Lib.hid (And.intro N5 K5)
                  clear N5 K5 hown hg hat ne5
                  go_wp2
                  go_roundw
                  case rel => exact ⟨k + 1, by omega, by go_num, HF⟩
                  case measure => simp [intOf]; omega
                · obtain rfl : p + 1 = k := by omega
                  have N6 : NRow 27 (Own 3 FI) w.heap.size wr (.slice (some ⟨w.heap.size, 0, none⟩) (p + 1) (p + 1)) (p + 1) (shMix v seeds (i + 1) 0) [] := by
                    have := HN.out.1
                    rw [← HP.out, shMix_full] at this
                    rw [← HP.out]
                    exact this.nrow (fun b hb => hb.1)
                  have B6 : Below w.heap.size w wr := HN.out.2.below (fun k hk q => by omega) (by omega) (HH.out.2.trans (B13.mono HH.out.2.size))
                  have HF := Lib.hid (And.intro N6 B6)
                  clear N6 B6
                  go_wp2
                  go_roundw
                  case rel => exact ⟨i + 1, by omega, by go_num, HF⟩
                  case measure => simp [intOf]; omega
        · obtain rfl : v.length = i := by omega
          have F := Lib.hid (show Fresh OII w wo _ (shVec v seeds) from by
            have := HH.out.1
            rw [shMix_end HOK.out] at this
            exact this.fresh_ HH.out.2 (Nat.le_refl _))
          go_wp2
          go_ret
          exact ⟨_, rfl, F.out⟩
    · have e : vecOk v seeds = false := by unfold vecOk; exact decide_eq_false (fun q => hc q.2)
      rw [shVec_no e]
      have HC : Hid (¬ (2 ≤ (seeds.length : Int) + 1 ∧ (seeds.length : Int) + 1 ≤ 4)) := Lib.hid (by omega)
      clear e hc
      go_enter Try.func64, Try.ntmps64
      go_wp2_with fail
      refine (iCnt_f _ _ HC.out).mono ?_
      rintro e w' ⟨rfl, rfl⟩
      go_wp2
      go_ret
      exact ⟨_, rfl, FN.out⟩
  · have e : vecOk v seeds = false := by unfold vecOk; exact decide_eq_false (fun q => h64 q.1)
    rw [shVec_no e]
    have h65 : 64 < v.length := by omega
    clear e h64
    go_enter Try.func64, Try.ntmps64
    go_wp2
    go_ret
    exact ⟨_, rfl, FN.out⟩
set_option maxHeartbeats 800000 in
set_option maxRecDepth 100000 in
theorem specShVec_c (vv vs : Value) (v seeds : List Int) (w : World) (h : Rd RI w vv v) (h' : Rd RI w vs seeds) (hv : v.length ≤ 1048576) (hs : seeds.length ≤ 1048576) :
    Calls Try.prog 62 #[vv, vs] w fun e w' => ∃ v', e = .returned v' ∧ Fresh OII w w' v' (shVec v seeds) := by
  obtain ⟨A, m, c, rfl, k1⟩ := h
  obtain ⟨A2, m2, c2, rfl, k2⟩ := h'
  obtain rfl := k1.1
  obtain rfl := k2.1
  have HV := Lib.hid k1
  have HSD := Lib.hid k2
  have NE := Lib.hid (show NRow 27 (Own 3 FI) w.heap.size (w.alloc (.cells #[] 27)) (.slice (some ⟨w.heap.size, 0, none⟩) 0 0) 0 ([] : List (List Int)) [] from NRow_lit w #[] (Nat.le_refl _) (by simp))
  have BE := Lib.hid (below_alloc w (.cells #[] 27))
  have FE := Lib.hid (show Fresh OII w (w.alloc (.cells #[] 27)) (.slice (some ⟨w.heap.size, 0, none⟩) 0 0) [] from NE.out.fresh_ BE.out (Nat.le_refl _))
  clear k1 k2
  by_cases h64 : v.length ≤ 64
  · by_cases hc : 1 ≤ seeds.length ∧ seeds.length ≤ 3
    · have hok := vecOk_of h64 hc.1 hc.2
      have HOK := Lib.hid hok
      obtain ⟨p, hp⟩ : ∃ p, seeds.length = p := ⟨_, rfl⟩
      obtain ⟨n, hn⟩ : ∃ n, v.length = n := ⟨_, rfl⟩
      have hc1 := hc.1
      have hc3 := hc.2
      rw [hp] at hc1 hc3 hs HSD ⊢
      rw [hn] at h64 hv HV ⊢
      have HP := Lib.hid hp
      have HNL := Lib.hid hn
      have hmk : ∀ W : World, (Instr.makeSlice 27 (.int .i64 (n : Int)) (.int .i64 (n : Int))).run Try.prog W = .ok (.slice (some ⟨W.heap.size, 0, none⟩) n n) (W.alloc (.cells (madeCells #[.int .i64 0] n) 3)) := fun W => by
        simpa using run_mk elI .i64 .i64 n (by omega) (by omega) W
      clear hok hc hp hn FE
      go_enter Try.func62, Try.ntmps62
      go_wp2_with fail
      refine (sCnt_t _ _ (by omega) (by omega)).mono ?_
      rintro e w' ⟨rfl, rfl⟩
      go_wp2
      go_loopw [5, 6] (fun o i wr => ∃ (k : Nat) (vo : Value), k ≤ p + 1 ∧ i = .int .i64 k ∧ o = vo ∧ Hid (NRow 27 (Own 3 FI) w.heap.size wr vo k (List.replicate k (List.replicate n 0)) [] ∧ Below w.heap.size w wr)) (fun _ i _ => p + 1 - (intOf i).toNat)
      case atStart => exact ⟨0, _, Nat.zero_le _, rfl, rfl, Lib.hid ⟨NE.out, BE.out⟩⟩
      case round =>
        obtain ⟨k, vo, hk, rfl, hvo, HH⟩ := hrel
        subst hvo
        clear NE BE
        by_cases hlt : k < p + 1
        · obtain ⟨cells, F, k1, k2, k3, k4⟩ := HH.out.1.open_
          obtain ⟨Ao, lo, co, rfl⟩ := own_shape k1
          have K := Lib.hid (And.intro k1 (And.intro k2 (And.intro k3 k4)))
          have FU := Lib.hid (fresh_zeros wr n (by simp only [maxLen]; omega))
          have KW := Lib.hid (show ((wr.alloc (.cells (madeCells #[.int .i64 0] n) 3)).alloc (.cells #[.slice (some ⟨wr.heap.size, 0, none⟩) n n] 27)).ownsRow 0 27 1 (.slice Ao lo co) k cells from (k1.alloc _).alloc _)
          have SRC := Lib.hid (show Src ((wr.alloc (.cells (madeCells #[.int .i64 0] n) 3)).alloc (.cells #[.slice (some ⟨wr.heap.size, 0, none⟩) n n] 27)) (some ⟨wr.heap.size + 1, 0, none⟩) 1 [.slice (some ⟨wr.heap.size, 0, none⟩) n n] from by
            have := Src_one (wr.alloc (.cells (madeCells #[.int .i64 0] n) 3)) (.slice (some ⟨wr.heap.size, 0, none⟩) n n) 27
            rw [World.size_alloc] at this
            exact this)
          clear k1 k2 k3 k4
          go_wp2_with (at_builtin; refine wpList_app elII rfl (.tmp 30) (.tmp 34) rfl _ k cells rfl KW.out (some ⟨wr.heap.size + 1, 0, none⟩) 1 1 [.slice (some ⟨wr.heap.size, 0, none⟩) n n] rfl SRC.out (one_single _ rfl) (by simp only [maxLen]; omega) (by omega) ?_; intro v2 w2 hown hg hat)
          have r0 := NRow.app (B := w.heap.size) (Own_good FI_good) K.out.1 K.out.2.1 K.out.2.2.1 K.out.2.2.2 FU.out HH.out.2.size hown hg hat
          rw [← List.replicate_succ'] at r0
          have rb : Below w.heap.size w w2 := NRow.app_below (w1 := wr.alloc (.cells (madeCells #[.int .i64 0] n) 3)) (HH.out.2.alloc HH.out.2.size _) (by have := HH.out.2.size; simp; omega) (fun b hb' => K.out.2.2.2 b (List.mem_append_left _ (by rw [show (Value.slice Ao lo co).ownBlock = some b from hb']; simp))) hg
          have HF := Lib.hid (And.intro r0 rb)
          clear r0 rb hown hg hat
          go_roundw
          case rel => exact ⟨k + 1, _, by omega, by go_num, rfl, HF⟩
          case measure => simp [intOf]; omega
        · obtain rfl : p + 1 = k := by omega
          rcases HH.out.1.form with ⟨_, h0⟩ | ⟨g, cap, rfl, hgc, _, hgB, hgl⟩
          · omega
          rename World => wa
          have NZ : Hid (NRow 27 (Own 3 FI) w.heap.size wa (.slice (some ⟨g, 0, none⟩) (p + 1) cap) (p + 1) (szMix v seeds 0 0) [] ∧ Below w.heap.size w wa) := Lib.hid (by
            rw [szMix_zero, HP.out, HNL.out]
            exact HH.out)
          clear HH
          have hpc : ((p + 1 : Nat) : Int) = (p : Int) + 1 := by omega
          rw [hpc]
          clear hpc
          go_wp2
          go_loopw [7] (fun i wr => ∃ k : Nat, k ≤ n ∧ i = .int .i64 k ∧ Hid (NRow 27 (Own 3 FI) w.heap.size wr (.slice (some ⟨g, 0, none⟩) (p + 1) cap) (p + 1) (szMix v seeds k 0) [] ∧ Below w.heap.size w wr)) (fun i _ => n - (intOf i).toNat)
          case atStart => exact ⟨0, Nat.zero_le _, rfl, NZ⟩
          case round =>
            obtain ⟨i, hi, rfl, HH⟩ := hrel
            rename World => wo
            clear NZ
            by_cases hlt : i < n
            · obtain ⟨b, off, x, u, rfl, hbb, hx, hu, hr⟩ := HV.out.at_ hlt
              unfold RI at hr
              subst hr
              have G1 := Lib.hid hu
              have HX := Lib.hid hx
              have hk0 : (0 : Int) ≤ (i : Int) := by omega
              have hkn : (i : Int) < (n : Int) := by omega
              have R0 := Lib.hid (Row_lit (E := 3) (B := wo.heap.size) wo #[] (Nat.le_refl _) (by simp))
              have B1 := Lib.hid (below_alloc wo (.cells #[] 3))
              clear hx hu
              go_wp2
              go_loopw [8, 9] (fun o l w1 => ∃ j : Nat, j ≤ p ∧ l = .int .i64 j ∧ Hid (Row 3 wo.heap.size w1 o j ((svS (seeds.take j) (i : Int)).map fun x => Value.int .i64 x) ∧ Below wo.heap.size wo w1)) (fun _ l _ => p - (intOf l).toNat)
              case atStart => exact ⟨0, Nat.zero_le _, rfl, Lib.hid ⟨R0.out, B1.out⟩⟩
              case round =>
                obtain ⟨j, hj, rfl, HS⟩ := hrel
                clear R0 B1
                by_cases hlt2 : j < p
                · obtain ⟨b2, off2, s, us, rfl, hbb2, hs2, hus, hrs⟩ := HSD.out.at_ hlt2
                  unfold RI at hrs
                  subst hrs
                  have g2 := ((HH.out.2.trans (HS.out.2.mono HH.out.2.size)).cell (p := ⟨b2, off2 + j, none⟩) hbb2).trans hus
                  have HT := Lib.hid (svS_take seeds (i : Int) j s hs2)
                  have hj0 : (0 : Int) ≤ (j : Int) := by omega
                  have hjn : (j : Int) < (p : Int) := by omega
                  have hSA : seedAt (i : Int) s = wrap64 (s + 77 * (i : Int)) := rfl
                  have HSA := Lib.hid hSA
                  clear hs2 hus hSA
                  go_wp2_with (at_builtin; refine wpList_app elI rfl (.tmp 49) (.tmp 57) rfl _ j _ rfl (HS.out.1.1.alloc _) (some ⟨wr.heap.size, 0, none⟩) 1 1 [.int .i64 (wrap64 (s + 77 * (i : Int)))] rfl (Src_one _ _ _) (one_single _ rfl) (by simp only [maxLen]; omega) (by omega) ?_; intro v2 w2 hown hg hat)
                  have P := HS.out.1.app HS.out.2 HS.out.2.size hown hg hat
                  have PH := Lib.hid P
                  clear hown hg hat P
                  go_roundw
                  case rel => exact ⟨j + 1, by omega, by go_num, Lib.hid (by rw [HT.out, HSA.out, List.map_append]; exact PH.out)⟩
                  case measure => simp [intOf]; omega
                · obtain rfl : p = j := by omega
                  have hT : seeds.take p = seeds := by rw [← HP.out]; exact List.take_length
                  obtain ⟨As, ls, cs, rfl⟩ := own_shape HS.out.1.1
                  have HSR := HS.out.1.1
                  rw [hT] at HSR
                  have rs := rd_rowI HSR rfl
                  have HSB := Lib.hid HS.out.2
                  have g1 := ((HH.out.2.trans (HSB.out.mono HH.out.2.size)).cell (p := ⟨b, off + i, none⟩) hbb).trans G1.out
                  have shok : shOk (svS seeds (i : Int)) = true := by
                    unfold shOk
                    rw [svS_len, HP.out]
                    exact decide_eq_true ⟨hc1, hc3⟩
                  have hsn := specShN_c x _ (svS seeds (i : Int)) wr rs (by rw [svS_len, HP.out]; omega)
                  rw [shN_yes shok] at hsn
                  have hl1 : (shV x (svS seeds (i : Int))).length = p + 1 := by rw [shV_len, svS_len, HP.out]
                  have HL1 := Lib.hid hl1
                  clear hT HSR rs HS shok hl1
                  go_wp2_with fail
                  refine hsn.mono ?_
                  rintro e w3 ⟨v3, rfl, F3⟩
                  obtain ⟨Ah, lh, ch, rfl⟩ := fresh_slice F3
                  have r3 := (F3.iv (Own_good FI_good)).rd (R' := RI) (fun q => q.ri)
                  obtain rfl : p + 1 = lh := by have := r3.at_same.1; have := HL1.out; omega
                  obtain ⟨bs, os, rfl, hbs, hcs⟩ := r3.at_same.2.2.2 (by omega)
                  have hbs2 : wr.heap.size ≤ bs := by
                    obtain ⟨F, f1, f2, f3, f4⟩ := F3
                    obtain ⟨k1, rfl⟩ := Own_flatI.1 f1
                    exact f3 bs (by simp [Value.ownBlock])
                  have B13 := HSB.out.trans (F3.below.mono HSB.out.size)
                  have hso := HSB.out.size
                  have NQ0 := Lib.hid ((HH.out.1.nrq (Q := fun b => w.heap.size ≤ b ∧ b ≠ bs) (Own_good FI_good) (fun b hb hlt => ⟨hb, fun e => by omega⟩)).below (Own_good FI_good) B13)
                  have HCS := Lib.hid hcs
                  clear F3 hcs r3 hsn g1
                  have hbw3 : bs < w3.heap.size := hbs
                  go_wp2
                  go_loopw [11] (fun l wr => ∃ k : Nat, k ≤ p + 1 ∧ l = .int .i64 k ∧ Hid (NRQ 27 (Own 3 FI) (fun b => w.heap.size ≤ b ∧ b ≠ bs) wr (.slice (some ⟨g, 0, none⟩) (p + 1) cap) (p + 1) (szMix v seeds i k) ∧ KeepQ (fun b => w.heap.size ≤ b ∧ b ≠ bs) w3 wr)) (fun l _ => p + 1 - (intOf l).toNat)
                  case atStart => exact ⟨0, Nat.zero_le _, rfl, Lib.hid ⟨NQ0.out, KeepQ.refl _ _⟩⟩
                  case round =>
                    obtain ⟨k, hk, rfl, HN⟩ := hrel
                    by_cases hlt3 : k < p + 1
                    · obtain ⟨y, u, hy, hu0, hru⟩ : ∃ y u, (shV x (svS seeds (i : Int)))[k]? = some y ∧ w3.cell? ⟨bs, os + k, none⟩ = some u ∧ RI w3 u y := by
                        have hkl : k < (shV x (svS seeds (i : Int))).length := by rw [HL1.out]; exact hlt3
                        obtain ⟨u, h1, h2⟩ := HCS.out k _ (List.getElem?_eq_getElem hkl)
                        exact ⟨_, u, List.getElem?_eq_getElem hkl, h1, h2⟩
                      unfold RI at hru
                      subst hru
                      have hcell : wr.drew.cell? ⟨bs, os + k, none⟩ = some (.int .i64 y) := by
                        rw [← hu0]
                        show wr.cell? _ = _
                        unfold World.cell?
                        rw [HN.out.2.block bs hbw3 (fun q => q.2 rfl)]
                      have hmg := szMix_get v seeds i k (by rw [HP.out]; exact hlt3)
                      obtain ⟨u, q1, q2, q3, q4, q5, q6, _, q8⟩ := HN.out.1.rowAtI hmg
                      have hrl := szRow_len v seeds i k (by rw [HNL.out]; omega)
                      rw [HNL.out] at hrl
                      obtain ⟨gk, ck, rfl⟩ : ∃ gk ck, u = .slice (some ⟨gk, 0, none⟩) n ck := by
                        rcases q4.2 with ⟨_, h0⟩ | ⟨g', cc, cur, hh, _⟩
                        · omega
                        · exact ⟨g', cc, by rw [hh, hrl]⟩
                      rw [hrl] at q4
                      have HMS : Hid ((szMix v seeds i k).set k ((szRow v seeds i k).set i y) = szMix v seeds i (k + 1)) := Lib.hid (by
                        rw [← szMix_set v seeds i k (by rw [HP.out]; exact hlt3) (by rw [HNL.out]; exact hlt), shV_get HX.out hy])
                      have hgk := q5 gk rfl
                      have hgks : gk < wr.heap.size := (q4.lt gk rfl).2
                      obtain ⟨z, hz⟩ : ∃ z, (szRow v seeds i k)[i]? = some z := ⟨_, List.getElem?_eq_getElem (by rw [hrl]; exact hlt)⟩
                      have cst0 := q4.cellAt i (by omega)
                      have cst : wr.drew.cell? ⟨gk, i, none⟩ = some (.int .i64 z) := cst0.trans (by rw [List.getElem?_map, hz]; rfl)
                      have fst_ : wr.drew.frozen? ⟨gk, i, none⟩ = false := q4.frozenAt i
                      have c1 : wr.drew.cell? ⟨g, k, none⟩ = some (.slice (some ⟨gk, 0, none⟩) n ck) := q1
                      have N5 := q8 gk i y rfl
                      rw [HMS.out] at N5
                      have K5 := HN.out.2.set (p := ⟨gk, i, none⟩) hgk.1 (.int .i64 y)
                      have HF : Hid (NRQ 27 (Own 3 FI) (fun b => w.heap.size ≤ b ∧ b ≠ bs) (wr.setCell ⟨gk, i, none⟩ (.int .i64 y)).drew (.slice (some ⟨g, 0, none⟩) (p + 1) cap) (p + 1) (szMix v seeds i (k + 1)) ∧ KeepQ (fun b => w.heap.size ≤ b ∧ b ≠ bs) w3 (wr.setCell ⟨gk, i, none⟩ (.int .i64 y)).drew) := Lib.hid (And.intro (N5.below (Own_good FI_good) (Below.refl _ _).drew) (K5.drewN 1))
                      have kf : (wr.drew.setCell ⟨gk, i, none⟩ (.int .i64 y)).cell? ⟨g, k, none⟩ = some (.slice (some ⟨gk, 0, none⟩) n ck) ∧ (wr.drew.setCell ⟨gk, i, none⟩ (.int .i64 y)).cell? ⟨bs, os + k, none⟩ = some (.int .i64 y) := ⟨(World.cell?_of_block (a := ⟨g, k, none⟩) (Below.heap_setCell wr.drew ⟨gk, i, none⟩ (.int .i64 y) g (by show g ≠ gk; exact fun e => hgk.2 e.symm))).trans c1, (World.cell?_of_block (a := ⟨bs, os + k, none⟩) (Below.heap_setCell wr.drew ⟨gk, i, none⟩ (.int .i64 y) bs (by show bs ≠ gk; exact fun e => hgk.1.2 e.symm))).trans hcell⟩
                      have hk0' : (0 : Int) ≤ (k : Int) := by omega
                      have hkn' : (k : Int) < (p : Int) + 1 := by omega
                      have hkn2 : (k : Int) < ((p + 1 : Nat) : Int) := by omega
                      clear hmg hu0 hy q1 q4 q5 q6 q8 hrl hz N5 K5 cst0
                      go_wp2_with fail
                      go_region_held3 (fun w' => w'.cell? ⟨g, k, none⟩ = some (.slice (some ⟨gk, 0, none⟩) n ck) ∧ w'.cell? ⟨bs, os + k, none⟩ = some (.int .i64 y))
                        (first | (exact ⟨c1, hcell⟩) | (exact kf) | go_keep)
                        (fail)
                      all_goals
                        go_wp2
                        go_roundw
                        case rel => exact ⟨k + 1, by omega, by go_num, HF⟩
                        case measure => simp [intOf]; omega
                    · obtain rfl : p + 1 = k := by omega
                      have N6 : NRow 27 (Own 3 FI) w.heap.size wr (.slice (some ⟨g, 0, none⟩) (p + 1) cap) (p + 1) (szMix v seeds (i + 1) 0) [] := by
                        have := HN.out.1
                        rw [← HP.out, szMix_full] at this
                        rw [← HP.out]
                        exact this.nrow (fun b hb => hb.1)
                      have B6 : Below w.heap.size w wr := HN.out.2.below (fun k hk q => by omega) (by have := HH.out.2.size; omega) (HH.out.2.trans (B13.mono HH.out.2.size))
                      have HF := Lib.hid (And.intro N6 B6)
                      clear N6 B6
                      go_wp2
                      go_roundw
                      case rel => exact ⟨i + 1, by omega, by go_num, HF⟩
                      case measure => simp [intOf]; omega
            · obtain rfl : n = i := by omega
              have F := Lib.hid (show Fresh OII w wo _ (shVec v seeds) from by
                have := HH.out.1
                rw [← HNL.out, szMix_end HOK.out] at this
                exact this.fresh_ HH.out.2 (Nat.le_refl _))
              go_wp2
              go_ret
              exact ⟨_, rfl, F.out⟩
    · have e : vecOk v seeds = false := by unfold vecOk; exact decide_eq_false (fun q => hc q.2)
      rw [shVec_no e]
      have HC : Hid (¬ (2 ≤ (seeds.length : Int) + 1 ∧ (seeds.length : Int) + 1 ≤ 4)) := Lib.hid (by omega)
      clear e hc
      go_enter Try.func62, Try.ntmps62
      go_wp2_with fail
      refine (sCnt_f _ _ HC.out).mono ?_
      rintro e w' ⟨rfl, rfl⟩
      go_wp2
      go_ret
      exact ⟨_, rfl, FE.out⟩
  · have e : vecOk v seeds = false := by unfold vecOk; exact decide_eq_false (fun q => h64 q.1)
    rw [shVec_no e]
    have h65 : 64 < v.length := by omega
    clear e h64
    go_enter Try.func62, Try.ntmps62
    go_wp2
    go_ret
    exact ⟨_, rfl, FE.out⟩
end Go.Proofs.Ytceogegjghmonaa
