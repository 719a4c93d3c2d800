/- Contracts of Mod, Hash, KeyedHash, ChildSeed, ControlBit, in the program and in the reference. -/
import Derived.Test.YtokhogdocaeelaaEl
import Derived.Test.YtokhogdocaeelaaRow
import Derived.Test.YtokhogdocaeelaaPlainHash
import Derived.IntWalk
import Derived.Lib.AppendZerosOnto
namespace Go.Proofs.Ytokhogdocaeelaa
set_option linter.unusedVariables false
open Go.RowKit

set_option maxHeartbeats 400000 in
theorem specMod_c (p q : Int) (w : World) (h1 : 1 ≤ q) (h2 : q ≤ 1000000000000) :
    Calls Try.prog 121 #[.int .i64 p, .int .i64 q] w fun e w' => e = .returned (.int .i64 (p % q)) ∧ w = w' := by
  have hr := tmod_range p q h1
  have hs := mod_spell p q h1
  go_enter Try.func121, Try.ntmps121
  go_wp2
  go_ret
  exact ⟨rfl, rfl⟩
set_option maxHeartbeats 400000 in
theorem implMod_c (p q : Int) (w : World) (h1 : 1 ≤ q) (h2 : q ≤ 1000000000000) :
    Calls Try.prog 132 #[.int .i64 p, .int .i64 q] w fun e w' => e = .returned (.int .i64 (p % q)) ∧ w = w' := by
  have hr := tmod_range p q h1
  have hs := mod_spell p q h1
  go_enter Try.func132, Try.ntmps132
  go_wp2
  go_ret
  exact ⟨rfl, rfl⟩
set_option maxHeartbeats 400000 in
theorem specHash_c (v : Value) (xs : List Int) (w : World) (h : Rd RI w v xs) :
    Calls Try.prog 118 #[v] w fun e w' => e = .returned (.int .i64 (hash xs)) ∧ w = w' := by
  obtain ⟨A, n, c, rfl, h⟩ := h
  have hnc := h.2.1
  have hcm := h.2.2.1
  unfold maxLen at hcm
  have H := Lib.hid h
  clear h
  go_enter Try.func118, Try.ntmps118
  go_wp2
  go_loop [3, 4] (fun d i => ∃ k : Nat, k ≤ n ∧ i = .int .i64 k ∧ d = .int .i64 (hash (xs.take k))) (fun _ i => n - (intOf i).toNat)
  case atStart => exact ⟨0, Nat.zero_le _, rfl, rfl⟩
  case round =>
    obtain ⟨k, hk, rfl, rfl⟩ := hrel
    have hr := hash_range (xs.take k)
    by_cases hlt : k < n
    · obtain ⟨b, off, x, u, rfl, hbb, hx, g1, hr'⟩ := H.out.at_ hlt
      unfold RI at hr'
      subst hr'
      have HS : Hid (hash (xs.take (k + 1)) = hstep (hash (xs.take k)) x) := Lib.hid (by rw [take_succ_get _ k x hx, hash_snoc])
      generalize hash (xs.take k) = d at *
      clear hx
      go_wp2_with fail
      refine (specMod_c _ _ _ (by omega) (by omega)).mono ?_
      rintro e w' ⟨rfl, rfl⟩
      have hm : 0 ≤ x % 2147483647 ∧ x % 2147483647 < 2147483647 := by omega
      unfold hstep at HS
      generalize x % 2147483647 = m at *
      go_wp2
      go_round
      case rel => exact ⟨k + 1, by omega, by go_num, by rw [HS.out]⟩
      case measure => simp [intOf]; omega
    · go_wp2
      go_ret
      exact ⟨ret_int (by rw [List.take_of_length_le (by have := H.out.1; omega)]), rfl⟩
set_option maxHeartbeats 400000 in
theorem implHash_c (v : Value) (xs : List Int) (w : World) (h : Rd RI w v xs) :
    Calls Try.prog 125 #[v] w fun e w' => e = .returned (.int .i64 (hash xs)) ∧ w = w' := by
  obtain ⟨A, n, c, rfl, h⟩ := h
  have hnc := h.2.1
  have hcm := h.2.2.1
  unfold maxLen at hcm
  have H := Lib.hid h
  clear h
  go_enter Try.func125, Try.ntmps125
  go_wp2
  go_loop [3, 8] (fun d i => ∃ k : Nat, k ≤ n ∧ i = .int .i64 k ∧ d = .int .i64 (hash (xs.take k))) (fun _ i => n - (intOf i).toNat)
  case atStart => exact ⟨0, Nat.zero_le _, rfl, rfl⟩
  case round =>
    obtain ⟨k, hk, rfl, rfl⟩ := hrel
    have hr := hash_range (xs.take k)
    by_cases hlt : k < n
    · obtain ⟨b, off, x, u, rfl, hbb, hx, g1, hr'⟩ := H.out.at_ hlt
      unfold RI at hr'
      subst hr'
      have HS : Hid (hash (xs.take (k + 1)) = hstep (hash (xs.take k)) x) := Lib.hid (by rw [take_succ_get _ k x hx, hash_snoc])
      generalize hash (xs.take k) = d at *
      clear hx
      go_wp2_with fail
      refine (implMod_c _ _ _ (by omega) (by omega)).mono ?_
      rintro e w' ⟨rfl, rfl⟩
      have hm : 0 ≤ x % 2147483647 ∧ x % 2147483647 < 2147483647 := by omega
      unfold hstep at HS
      generalize x % 2147483647 = m at *
      go_wp2
      go_round
      case rel => exact ⟨k + 1, by omega, by go_num, by rw [HS.out]⟩
      case measure => simp [intOf]; omega
    · go_wp2
      go_ret
      exact ⟨ret_int (by rw [List.take_of_length_le (by have := H.out.1; omega)]), rfl⟩
theorem sum_take_le {α : Type} (l : List (List α)) (k : Nat) : ((l.take k).map List.length).sum ≤ (l.map List.length).sum := by
  have h : (l.map List.length) = ((l.take k).map List.length) ++ ((l.drop k).map List.length) := by rw [← List.map_append, List.take_append_drop]
  rw [h, List.sum_append]
  omega
theorem sum_take_succ {α : Type} (l : List (List α)) (k : Nat) (x : List α) (h : l[k]? = some x) : ((l.take (k + 1)).map List.length).sum = ((l.take k).map List.length).sum + x.length := by
  rw [take_succ_get l k x h]; simp
theorem flatten_take_succ {α : Type} (l : List (List α)) (k : Nat) (x : List α) (h : l[k]? = some x) : (l.take (k + 1)).flatten = (l.take k).flatten ++ x := by
  rw [take_succ_get l k x h]; simp
theorem flatten_len {α : Type} (l : List (List α)) : l.flatten.length = (l.map List.length).sum := by simp [List.length_flatten]

set_option maxHeartbeats 1000000 in
set_option maxRecDepth 100000 in
theorem GrowI_c (n : Nat) (w : World) (hn : n ≤ 1099511627776) :
    Calls Try.prog 133 #[.slice none 0 0, .int .i64 (n : Int)] w fun e w' => ∃ v', e = .returned v' ∧ Row 3 w.heap.size w' v' 0 [] ∧ Below w.heap.size w w' := by
  by_cases h0 : n = 0
  · subst h0
    go_enter Try.func133, Try.ntmps133
    go_wp2
    go_ret
    exact ⟨_, rfl, ⟨World.ownsRow_nil _ _ _ _, by simp [Value.ownBlock]⟩, Below.refl _ _⟩
  · obtain ⟨i, hi, hzz⟩ := Option.map_eq_some_iff.1 elI.hinfo
    simp only [Prod.mk.injEq] at hzz
    obtain ⟨hz, hs, hb⟩ := hzz
    have hrz : ∀ ty, (Builtin.append_ #[24, 3] ty #[.slice none 0 0, .int .i64 (n : Int)]).run Try.prog w =
        .ok (.slice (some ⟨w.heap.size, 0, none⟩) n (grownCap w n 0 3)) (w.drew.alloc (.cells (#[] ++ Builtin.zeroCells (Value.cells (.int .i64 0)) n ++ Builtin.zeroCells (Value.cells (.int .i64 0)) (grownCap w n 0 3 - n)) 3)) := fun ty => by
      have h := Lib.run_append_grow_zeros w 24 3 ty 3 i _ .i64 .i64 elI.ht Try.underlying3 hi hz none 0 0 [] (run_firstCells_none w.drew i.size 0 0 0) n (by omega) (by omega) (by omega) (by omega) (by rw [hb]; omega)
        (by rw [Nat.zero_add]; exact growslice_fits (by omega) (by rw [hb]; omega))
      simpa using h
    have hge := grownCap_ge w n 0 3
    have hle := grownCap_le_maxLen w n 0 3 (by simp only [maxLen]; omega)
    have hcs : (#[] ++ Builtin.zeroCells (Value.cells (.int .i64 0)) n ++ Builtin.zeroCells (Value.cells (.int .i64 0)) (grownCap w n 0 3 - n)).size = grownCap w n 0 3 := by
      simp [size_zeroCells, Value.cells]; omega
    generalize grownCap w n 0 3 = C at *
    generalize (#[] ++ Builtin.zeroCells (Value.cells (.int .i64 0)) n ++ Builtin.zeroCells (Value.cells (.int .i64 0)) (C - n)) = cs at *
    have HC := Lib.hid hcs
    have HL := Lib.hid hle
    clear hcs hle hz hs hb hi
    unfold maxLen at *
    have hp : 0 < n := by omega
    clear h0
    go_enter Try.func133, Try.ntmps133
    go_wp2_with (at_builtin; refine Lib.wpList_append_run _ rfl _ _ _ _ rfl _ _ rfl rfl _ _ (hrz _) ?_)
    go_ret
    exact ⟨_, rfl, ⟨World.ownsRow_made (base := 0) w cs C (Nat.zero_le _) HL.out (by rw [HC.out]; omega), fun b hb => by simp [Value.ownBlock] at hb; omega⟩, ((Below.refl _ _).alloc (Nat.le_refl _) _).drew⟩
set_option maxHeartbeats 1000000 in
set_option maxRecDepth 100000 in
theorem ConcatI_c (v : Value) (xss : List (List Int)) (w : World) (h : Rd (Rd RI) w v xss) (hn : (xss.map List.length).sum ≤ 1099511627776) :
    Calls Try.prog 126 #[v] w fun e w' => ∃ v', e = .returned v' ∧ Fresh (Own 3 FI) w w' v' xss.flatten := by
  obtain ⟨A, n, c, rfl, h⟩ := h
  have hnc := h.2.1
  have hcm := h.2.2.1
  unfold maxLen at hcm
  have H := Lib.hid h
  clear h
  go_enter Try.func126, Try.ntmps126
  go_wp2
  go_loop [3, 11] (fun d i => ∃ k : Nat, k ≤ n ∧ i = .int .i64 k ∧ d = .int .i64 (((xss.take k).map List.length).sum : Nat)) (fun _ i => n - (intOf i).toNat)
  case atStart => exact ⟨0, Nat.zero_le _, rfl, rfl⟩
  case round =>
    obtain ⟨k, hk, rfl, rfl⟩ := hrel
    by_cases hlt : k < n
    · obtain ⟨b, off, xs, u, rfl, hbb, hx, g1, hr⟩ := H.out.at_ hlt
      obtain ⟨A', n', c', rfl, hr⟩ := hr
      have e := sum_take_succ xss k xs hx
      have hle := sum_take_le xss (k + 1)
      rw [hr.1] at e
      have HE := Lib.hid e
      rw [e] at hle
      generalize ((xss.take k).map List.length).sum = s at *
      clear e hx hr
      go_wp2
      go_round
      case rel => exact ⟨k + 1, by omega, by go_num, by rw [HE.out]; go_num⟩
      case measure => simp [intOf]; omega
    · have hkn : k = n := by omega
      subst hkn
      have e : ((xss.take k).map List.length).sum = (xss.map List.length).sum := by rw [List.take_of_length_le (by have := H.out.1; omega)]
      rw [e]
      obtain ⟨s, hs⟩ : ∃ s, s = (xss.map List.length).sum := ⟨_, rfl⟩
      rw [← hs] at hn ⊢
      have HS := Lib.hid hs
      clear e hs
      go_wp2_with fail
      refine (GrowI_c s _ hn).mono ?_
      rintro e w1 ⟨v1, rfl, hrow, hb⟩
      go_wp2
      go_loopw [6, 27] (fun o i wr => ∃ j : Nat, j ≤ k ∧ i = .int .i64 j ∧ (∃ m, Row 3 w.heap.size wr o m ((xss.take j).flatten.map (fun x => Value.int .i64 x))) ∧ Below w.heap.size w wr) (fun _ i _ => k - (intOf i).toNat)
      case atStart => exact ⟨0, Nat.zero_le _, rfl, ⟨0, hrow⟩, hb⟩
      case round =>
        obtain ⟨j, hj, rfl, ⟨m, hrow⟩, hb⟩ := hrel
        by_cases hlt : j < k
        · obtain ⟨b, off, xs, u, rfl, hbb, hx, g1, hr⟩ := H.out.at_ hlt
          have g2 := (hb.cell (p := ⟨b, off + j, none⟩) hbb).trans g1
          obtain ⟨A', n', c', rfl, hr⟩ := hr
          have HF := Lib.hid (flatten_take_succ xss j xs hx)
          have e := sum_take_succ xss j xs hx
          have hle := sum_take_le xss (j + 1)
          have hm : m = ((xss.take j).map List.length).sum := by have e' := hrow.1.1; rw [List.length_map, flatten_len] at e'; omega
          have hr' := RdAt_reads RI_reads hr hb
          have hbound : m + n' ≤ 1099511627776 := by rw [hr.1] at e; have := HS.out; omega
          clear e hle hm hx g1
          go_wp2_with (at_builtin; refine wpList_app elI rfl (.tmp 31) (.tmp 32) rfl _ m _ rfl hrow.1 A' n' c' _ rfl hr'.srcI (one_mapI xs) (by simp only [maxLen]; omega) (by omega) ?_; intro v2 w2 hown2 hg2 hat2)
          have r := hrow.app0 hb hb.size hown2 hg2 hat2
          rw [← List.map_append, ← HF.out] at r
          go_roundw
          case rel => exact ⟨j + 1, by omega, by go_num, ⟨_, r.1⟩, r.2⟩
          case measure => simp [intOf]; omega
        · go_wp2
          go_ret
          have hkj : j = k := by omega
          subst hkj
          rw [List.take_of_length_le (by have := H.out.1; omega)] at hrow
          exact ⟨_, rfl, hrow.freshI hb rfl⟩
set_option maxHeartbeats 1000000 in
theorem specKeyedHash_c (k : Int) (v : Value) (xs : List Int) (w : World) (h : Rd RI w v xs) (hn : xs.length ≤ 1099511627776) :
    Calls Try.prog 80 #[.int .i64 k, v] w fun e w' => e = .returned (.int .i64 (khash k xs)) ∧ Below w.heap.size w w' := by
  obtain ⟨A, n, c, rfl, h⟩ := h
  have hnn : n ≤ 1099511627776 := h.1 ▸ hn
  have H := Lib.hid h
  clear h hn
  go_enter Try.func80, Try.ntmps80
  go_wp2_with (first
    | (at_builtin; refine wpList_app elI rfl (.tmp 6) (.tmp 7) rfl _ 1 [.int .i64 k] rfl (Row_lit (B := w.heap.size) w #[.int .i64 k] (Nat.le_refl _) (by simp [maxLen])).1 A n c _ rfl (H.out.srcI.alloc _) (one_mapI xs) (by simp only [maxLen]; omega) (by omega) ?_; intro v1 w1 hown1 hg1 hat1)
    | (at_builtin; refine wpList_app elI rfl (.tmp 8) (.tmp 10) rfl _ (1 + n) _ rfl (hown1.alloc _) (some ⟨w1.heap.size, 0, none⟩) 1 1 [.int .i64 k] rfl (Src_one _ _ _) (one_single _ rfl) (by simp only [maxLen]; omega) (by omega) ?_; intro v2 w2 hown2 hg2 hat2)
    | fail)
  have r1 := app_below (a := w) ((Below.refl w.heap.size w).alloc (Nat.le_refl _) (.cells #[.int .i64 k] 3)) (by simp) (Row_lit (E := 3) (B := w.heap.size) w #[.int .i64 k] (Nat.le_refl _) (by simp [maxLen])).2 hg1 hat1
  have r2 := app_below (a := w) (r1.1.alloc r1.1.size (.cells #[.int .i64 k] 3)) (by have := r1.1.size; simp; omega) r1.2 hg2 hat2
  refine (specHash_c _ (k :: (xs ++ [k])) _ (rd_rowI hown2 (by simp))).mono ?_
  rintro e w' ⟨rfl, rfl⟩
  go_wp2
  go_ret
  exact ⟨rfl, r2.1⟩
set_option maxHeartbeats 1000000 in
theorem implKeyedHash_c (k : Int) (v : Value) (xs : List Int) (w : World) (h : Rd RI w v xs) (hn : xs.length ≤ 1099511627000) :
    Calls Try.prog 99 #[.int .i64 k, v] w fun e w' => e = .returned (.int .i64 (khash k xs)) ∧ Below w.heap.size w w' := by
  obtain ⟨A, n, c, rfl, h'⟩ := h
  have h : Rd RI w (.slice A n c) xs := ⟨_, _, _, rfl, h'⟩
  clear h'
  go_enter Try.func99, Try.ntmps99
  go_wp2_with fail
  have b0 := below_alloc w (.cells #[.int .i64 k] 3)
  have b1 := below_alloc (w.alloc (.cells #[.int .i64 k] 3)) (.cells #[.int .i64 k] 3)
  have r0 := Rd_reads RI_reads _ _ _ _ (Rd_litI1 w k 3) b1
  have r1 := Rd_reads RI_reads _ _ _ _ (Rd_reads RI_reads _ _ _ _ h b0) b1
  have r2 := Rd_litI1 (w.alloc (.cells #[.int .i64 k] 3)) k 3
  have b2 := fun cs => below_alloc ((w.alloc (.cells #[.int .i64 k] 3)).alloc (.cells #[.int .i64 k] 3)) (.cells cs 24)
  have r := Rd_lit3 ((w.alloc (.cells #[.int .i64 k] 3)).alloc (.cells #[.int .i64 k] 3)) _ _ _ 24 _ _ _ (Rd_reads RI_reads _ _ _ _ r0 (b2 _)) (Rd_reads RI_reads _ _ _ _ r1 (b2 _)) (Rd_reads RI_reads _ _ _ _ r2 (b2 _))
  refine (ConcatI_c _ [[k], xs, [k]] _ (by simpa using r) (by simp; omega)).mono ?_
  rintro e w1 ⟨v1, rfl, F⟩
  have B := ((b0.trans (b1.mono b0.size)).trans ((b2 _).mono (by simp; omega))).trans (F.below.mono (by simp; omega))
  have f := F.iv (Own_good FI_good)
  clear F r r0 r1 r2 b0 b1 b2
  go_wp2_with fail
  refine (implHash_c _ (k :: (xs ++ [k])) _ (by simpa using f.rd (fun k => k.ri))).mono ?_
  rintro e w' ⟨rfl, rfl⟩
  go_wp2
  go_ret
  exact ⟨rfl, B⟩
set_option maxHeartbeats 1000000 in
theorem specChildSeed_c (s d : Int) (w : World) :
    Calls Try.prog 111 #[.int .i64 s, .int .i64 d] w fun e w' => e = .returned (.int .i64 (childS s d)) ∧ Below w.heap.size w w' := by
  go_enter Try.func111, Try.ntmps111
  go_wp2_with fail
  refine (specKeyedHash_c _ _ [47, d] _ (Rd_litI2 w 47 d 3) (by simp)).mono ?_
  rintro e w1 ⟨rfl, b⟩
  have hr := khash_range s [47, d]
  have B := (below_alloc w (.cells #[.int .i64 47, .int .i64 d] 3)).trans (b.mono (by simp))
  have HC : Hid (childS s d = (khash s [47, d] * khash s [47, d] + 5) % 2147483647) := Lib.hid rfl
  generalize khash s [47, d] = h at *
  have hm : 0 ≤ h * h ∧ h * h < 4611686018427387904 := sq_range h hr.1 hr.2
  clear b
  go_wp2
  go_ret
  exact ⟨ret_int (by rw [HC.out]), B⟩
set_option maxHeartbeats 1000000 in
theorem implChildSeed_c (s d : Int) (w : World) :
    Calls Try.prog 109 #[.int .i64 s, .int .i64 d] w fun e w' => e = .returned (.int .i64 (childS s d)) ∧ Below w.heap.size w w' := by
  go_enter Try.func109, Try.ntmps109
  go_wp2_with fail
  refine (implKeyedHash_c _ _ [47, d] _ (Rd_litI2 w 47 d 3) (by simp)).mono ?_
  rintro e w1 ⟨rfl, b⟩
  have hr := khash_range s [47, d]
  have B := (below_alloc w (.cells #[.int .i64 47, .int .i64 d] 3)).trans (b.mono (by simp))
  have HC : Hid (childS s d = (khash s [47, d] * khash s [47, d] + 5) % 2147483647) := Lib.hid rfl
  generalize khash s [47, d] = h at *
  have hm : 0 ≤ h * h ∧ h * h < 4611686018427387904 := sq_range h hr.1 hr.2
  clear b
  go_wp2
  go_ret
  exact ⟨ret_int (by rw [HC.out]), B⟩
end Go.Proofs.Ytokhogdocaeelaa
