/- Exclusive or: both XorBytes and slices.Clone at []byte. -/
import Derived.Test.YtokhogdocaeelaaEl
import Derived.Test.YtokhogdocaeelaaRow
import Derived.Test.YtokhogdocaeelaaPlainXor
namespace Go.Proofs.Ytokhogdocaeelaa
set_option linter.unusedVariables false
open Go.RowKit

theorem xor_u8 (a b : UInt8) : bits .xor .u8 (a.toNat : Int) (b.toNat : Int) = ((a ^^^ b).toNat : Int) := by
  rw [u8_xor_nat _ _ a.toNat_lt b.toNat_lt, UInt8.toNat_xor]


set_option maxHeartbeats 400000 in
theorem CloneB_c (v : Value) (xs : List UInt8) (w : World) (h : Rd RB w v xs) (hn : xs.length ≤ 17592186044416) :
    Calls Try.prog 96 #[v] w fun e w' => ∃ v', e = .returned v' ∧ Fresh (Own 5 FB) w w' v' xs := by
  obtain ⟨A, n, c, rfl, h⟩ := h
  have hl := h.1
  have hnc := h.2.1
  have hcm := h.2.2.1
  have H := Lib.hid h
  clear h
  rcases A with _ | ad
  · have h0 : n = 0 := by
      rcases Nat.eq_zero_or_pos n with h | h
      · exact h
      · obtain ⟨b, off, _, _, e, _⟩ := H.out.at_ h
        cases e
    subst h0
    obtain rfl := List.eq_nil_of_length_eq_zero hl
    have he := run_eql_sl (P := Try.prog) 22 5 none 0 c elB.ht
    go_enter Try.func96, Try.ntmps96
    go_wp2
    go_ret
    exact ⟨_, rfl, fresh_flatB (World.ownsRow_nil _ _ _ _) rfl (by simp [Value.ownBlock]) (Below.refl _ _)⟩
  · have hn2 : n ≤ 17592186044416 := hl ▸ hn
    unfold maxLen at hcm
    have HX : Hid (n = xs.length) := Lib.hid hl.symm
    clear hl hn
    have he := run_eql_sl (P := Try.prog) 22 5 (some ad) n c elB.ht
    go_enter Try.func96, Try.ntmps96
    go_wp2_with (at_builtin; refine wpList_app elB rfl (.tmp 5) (.tmp 6) rfl _ 0 [] rfl (Row_lit (B := w.heap.size) w #[] (Nat.le_refl _) (by simp)).1 (some ad) n c _ rfl (H.out.srcB.alloc _) (one_mapB xs) (by simp only [maxLen]; omega) (by omega) ?_; intro v' w1 hown hg hat)
    go_ret
    have r := (Row_lit (E := 5) (B := w.heap.size) w #[] (Nat.le_refl _) (by simp)).app0 (below_alloc w _) (by simp) hown hg hat
    exact ⟨_, rfl, r.1.freshB r.2 (by simp)⟩

set_option maxHeartbeats 1000000 in
theorem specXorBytes_c (v1 v2 : Value) (xs ys : List UInt8) (w : World) (h1 : Rd RB w v1 xs) (h2 : Rd RB w v2 ys) (hn : xs.length ≤ 17592186044416) (hm : ys.length ≤ 17592186044416) :
    Calls Try.prog 77 #[v1, v2] w fun e w' => ∃ v', e = .returned v' ∧ Fresh (Own 5 FB) w w' v' (xorB xs ys) := by
  obtain ⟨A, n, c, rfl, h⟩ := h1
  obtain ⟨B, m, d, rfl, h'⟩ := h2
  have hnn : n ≤ 17592186044416 := h.1 ▸ hn
  have hmm : m ≤ 17592186044416 := h'.1 ▸ hm
  have HL : Hid ((xorB xs ys).length = max n m) := Lib.hid (by rw [xorB_len, h.1, h'.1])
  have H := Lib.hid h
  have H' := Lib.hid h'
  clear h h' hn hm
  have step : ∀ (k : Nat) (z : UInt8) (wr w1 : World) (o v' : Value), k < max n m → (xorB xs ys)[k]? = some z → Row 5 w.heap.size wr o k (((xorB xs ys).take k).map (fun x => Value.int .u8 (x.toNat : Int))) → Below w.heap.size w wr →
      w1.ownsRow 0 5 1 v' (k + 1) (((xorB xs ys).take k).map (fun x => Value.int .u8 (x.toNat : Int)) ++ [.int .u8 (z.toNat : Int)]) → (wr.alloc (.cells #[.int .u8 (z.toNat : Int)] 5)).grownBy w1 o.ownBlock → (v'.ownBlock = o.ownBlock ∨ v'.ownBlock = some (wr.alloc (.cells #[.int .u8 (z.toNat : Int)] 5)).heap.size) →
      Row 5 w.heap.size w1 v' (k + 1) (((xorB xs ys).take (k + 1)).map (fun x => Value.int .u8 (x.toNat : Int))) ∧ Below w.heap.size w w1 := by
    intro k z wr w1 o v' _ hz hrow hb hown hg hat
    have r := hrow.app hb hb.size hown hg hat
    rwa [show ((xorB xs ys).take k).map (fun x => Value.int .u8 (x.toNat : Int)) ++ [.int .u8 (z.toNat : Int)] = ((xorB xs ys).take (k + 1)).map (fun x => Value.int .u8 (x.toNat : Int)) by rw [take_succ_get _ k z hz]; simp] at r
  have STEP := Lib.hid step
  clear step
  go_enter Try.func77, Try.ntmps77
  go_wp2
  go_loopw [5, 6] (fun o i wr => ∃ k : Nat, k ≤ max n m ∧ i = .int .i64 k ∧ Row 5 w.heap.size wr o k (((xorB xs ys).take k).map (fun x => Value.int .u8 (x.toNat : Int))) ∧ Below w.heap.size w wr) (fun _ i _ => max n m - (intOf i).toNat)
  case atStart => exact ⟨0, Nat.zero_le _, rfl, Row_lit w #[] (Nat.le_refl _) (by simp), below_alloc w _⟩
  case round =>
    obtain ⟨k, hk, rfl, hrow, hb⟩ := hrel
    by_cases hx : k < n
    · obtain ⟨b, off, x, u, rfl, hbb, hgx, hu, hr⟩ := H.out.at_ hx
      have g1 := (hb.cell (p := ⟨b, off + k, none⟩) hbb).trans hu
      unfold RB at hr
      subst hr
      clear hu
      by_cases hy : k < m
      · obtain ⟨b', off', y, u', rfl, hbb', hgy, hu', hr'⟩ := H'.out.at_ hy
        have g2 := (hb.cell (p := ⟨b', off' + k, none⟩) hbb').trans hu'
        unfold RB at hr'
        subst hr'
        clear hu'
        have HZ := Lib.hid (xorB_both xs ys k x y hgx hgy)
        have hz := xor_u8 x y
        obtain ⟨z, hze⟩ : ∃ z, z = x ^^^ y := ⟨_, rfl⟩
        rw [← hze] at hz HZ
        clear hgx hgy hze
        go_wp2_with (at_builtin; refine wpList_app elB rfl (.tmp 39) (.tmp 41) rfl _ k _ rfl (hrow.1.alloc _) (some ⟨wr.heap.size, 0, none⟩) 1 1 [.int .u8 (z.toNat : Int)] rfl (Src_one _ _ _) (one_single _ rfl) (by simp only [maxLen]; omega) (by omega) ?_; intro v' w1 hown hg hat)
        have r := STEP.out k z _ _ _ _ (by omega) HZ.out hrow hb hown hg hat
        go_roundw
        case rel => exact ⟨k + 1, by omega, by go_num, r.1, r.2⟩
        case measure => simp [intOf]; omega
      · have HZ := Lib.hid (xorB_left xs ys k x hgx (by have := H'.out.1; omega))
        clear hgx
        go_wp2_with (at_builtin; refine wpList_app elB rfl (.tmp 39) (.tmp 41) rfl _ k _ rfl (hrow.1.alloc _) (some ⟨wr.heap.size, 0, none⟩) 1 1 [.int .u8 (x.toNat : Int)] rfl (Src_one _ _ _) (one_single _ rfl) (by simp only [maxLen]; omega) (by omega) ?_; intro v' w1 hown hg hat)
        have r := STEP.out k x _ _ _ _ (by omega) HZ.out hrow hb hown hg hat
        go_roundw
        case rel => exact ⟨k + 1, by omega, by go_num, r.1, r.2⟩
        case measure => simp [intOf]; omega
    · by_cases hy : k < m
      · obtain ⟨b', off', y, u', rfl, hbb', hgy, hu', hr'⟩ := H'.out.at_ hy
        have g2 := (hb.cell (p := ⟨b', off' + k, none⟩) hbb').trans hu'
        unfold RB at hr'
        subst hr'
        have HZ := Lib.hid (xorB_right xs ys k y hgy (by have := H.out.1; omega))
        have hz : bits .xor .u8 0 (y.toNat : Int) = (y.toNat : Int) := by have := xor_u8 0 y; simpa using this
        clear hu' hgy
        go_wp2_with (at_builtin; refine wpList_app elB rfl (.tmp 39) (.tmp 41) rfl _ k _ rfl (hrow.1.alloc _) (some ⟨wr.heap.size, 0, none⟩) 1 1 [.int .u8 (y.toNat : Int)] rfl (Src_one _ _ _) (one_single _ rfl) (by simp only [maxLen]; omega) (by omega) ?_; intro v' w1 hown hg hat)
        have r := STEP.out k y _ _ _ _ (by omega) HZ.out hrow hb hown hg hat
        go_roundw
        case rel => exact ⟨k + 1, by omega, by go_num, r.1, r.2⟩
        case measure => simp [intOf]; omega
      · have hkn : k = max n m := by omega
        have HK := Lib.hid hkn
        clear hkn
        go_wp2
        go_ret
        rw [List.take_of_length_le (by rw [HL.out]; have := HK.out; omega)] at hrow
        exact ⟨_, rfl, hrow.freshB hb rfl⟩
set_option maxHeartbeats 1000000 in
theorem implXorBytes_c (v1 v2 : Value) (xs ys : List UInt8) (w : World) (h1 : Rd RB w v1 xs) (h2 : Rd RB w v2 ys) (hn : xs.length ≤ 17592186044416) (hm : ys.length ≤ 17592186044416) :
    Calls Try.prog 79 #[v1, v2] w fun e w' => ∃ v', e = .returned v' ∧ Fresh (Own 5 FB) w w' v' (xorB xs ys) := by
  obtain ⟨A, n, c, rfl, h⟩ := h1
  obtain ⟨B, m, d, rfl, h'⟩ := h2
  have hnn : n ≤ 17592186044416 := h.1 ▸ hn
  have hmm : m ≤ 17592186044416 := h'.1 ▸ hm
  have H := Lib.hid h
  have H' := Lib.hid h'
  clear h h'
  by_cases hs : n < m
  · go_enter Try.func79, Try.ntmps79
    go_wp2_with fail
    refine (CloneB_c _ ys _ ⟨_, _, _, rfl, H'.out⟩ hm).mono ?_
    rintro e w1 ⟨v, rfl, F⟩
    rcases fresh_form F with ⟨rfl, hx0⟩ | ⟨g, cap, rfl, hnc, hcm, hg1, hown⟩
    · exfalso
      have e := H'.out.1
      rw [hx0] at e
      simp at e
      omega
    · have hb := F.below
      unfold maxLen at hcm
      have HL : Hid (ys.length = m) := Lib.hid H'.out.1
      have HM : Hid (xs.length = n) := Lib.hid H.out.1
      have HO := Lib.hid hown
      clear hown F
      have hcap : m ≤ cap := by rw [← HL.out]; exact hnc
      rw [HL.out] at HO ⊢
      clear hnc
      go_wp2
      go_loopw [19] (fun i wr => ∃ k : Nat, k ≤ n ∧ i = .int .i64 k ∧ Hid (wr.ownsRow 0 5 1 (.slice (some ⟨g, 0, none⟩) m cap) m ((xorB ys (xs.take k)).map (fun x => Value.int .u8 (x.toNat : Int)))) ∧ Below w.heap.size w wr) (fun i _ => n - (intOf i).toNat)
      case atStart => exact ⟨0, Nat.zero_le _, rfl, Lib.hid (by rw [List.take_zero, xorB_nil]; exact HO.out), hb⟩
      case round =>
        obtain ⟨k, hk, rfl, hown, hb⟩ := hrel
        by_cases hlt : k < n
        · obtain ⟨b, off, y, u, rfl, hbb, hy, hu, hr⟩ := H.out.at_ hlt
          have g1 := (hb.cell (p := ⟨b, off + k, none⟩) hbb).trans hu
          unfold RB at hr
          subst hr
          obtain ⟨x, hx⟩ : ∃ x, ys[k]? = some x := ⟨_, List.getElem?_eq_getElem (by have := HL.out; omega)⟩
          have gx : (xorB ys (xs.take k))[k]? = some x := xorB_left _ _ k x hx (List.length_take_le _ _)
          have g2 := (hown.out.cellAt k (by omega)).trans (by rw [List.getElem?_map, gx, Option.map_some])
          have g3 := hown.out.frozenAt k
          have hz := xor_u8 x y
          have HZ := Lib.hid (xorB_take_succ ys xs k x y hx hy)
          obtain ⟨z, hze⟩ : ∃ z, z = x ^^^ y := ⟨_, rfl⟩
          rw [← hze] at hz HZ
          clear hu hx gx hy hze
          go_wp2
          have st := hown.out.stored k (.int .u8 (z.toNat : Int))
          rw [show ((xorB ys (xs.take k)).map (fun x => Value.int .u8 (x.toNat : Int))).set k (.int .u8 (z.toNat : Int)) = (xorB ys (xs.take (k + 1))).map (fun x => Value.int .u8 (x.toNat : Int)) by rw [HZ.out, List.map_set]] at st
          go_roundw
          case rel => exact ⟨k + 1, by omega, by go_num, st.1, hb.setCell hg1 _⟩
          case measure => simp [intOf]; omega
        · have hkm : k = n := by omega
          subst hkm
          go_wp2
          go_ret
          have ho := hown.out
          rw [List.take_of_length_le (by have := HM.out; omega)] at ho
          exact ⟨_, rfl, fresh_flatB ho (by rw [xorB_comm]) (fun b hb => by simp [Value.ownBlock] at hb; omega) hb⟩
  · go_enter Try.func79, Try.ntmps79
    go_wp2_with fail
    refine (CloneB_c _ xs _ ⟨_, _, _, rfl, H.out⟩ hn).mono ?_
    rintro e w1 ⟨v, rfl, F⟩
    rcases fresh_form F with ⟨rfl, hx0⟩ | ⟨g, cap, rfl, hnc, hcm, hg1, hown⟩
    · have hb := F.below
      have e := H.out.1
      rw [hx0] at e
      obtain rfl : 0 = n := e
      obtain rfl : m = 0 := by omega
      have hy0 : ys = [] := List.eq_nil_of_length_eq_zero H'.out.1
      subst hx0 hy0
      clear F
      go_wp2
      refine wp_loop_rounds 1 ?_
      rw [rounds_succ]
      go_wp2
      go_ret
      exact ⟨_, rfl, fresh_flatB (World.ownsRow_nil _ _ _ _) rfl (by simp [Value.ownBlock]) hb⟩
    · have hb := F.below
      unfold maxLen at hcm
      have HL : Hid (xs.length = n) := Lib.hid H.out.1
      have HM : Hid (ys.length = m) := Lib.hid H'.out.1
      have HO := Lib.hid hown
      clear hown F
      have hcap : n ≤ cap := by rw [← HL.out]; exact hnc
      rw [HL.out] at HO ⊢
      clear hnc
      go_wp2
      go_loopw [19] (fun i wr => ∃ k : Nat, k ≤ m ∧ i = .int .i64 k ∧ Hid (wr.ownsRow 0 5 1 (.slice (some ⟨g, 0, none⟩) n cap) n ((xorB xs (ys.take k)).map (fun x => Value.int .u8 (x.toNat : Int)))) ∧ Below w.heap.size w wr) (fun i _ => m - (intOf i).toNat)
      case atStart => exact ⟨0, Nat.zero_le _, rfl, Lib.hid (by rw [List.take_zero, xorB_nil]; exact HO.out), hb⟩
      case round =>
        obtain ⟨k, hk, rfl, hown, hb⟩ := hrel
        by_cases hlt : k < m
        · obtain ⟨b, off, y, u, rfl, hbb, hy, hu, hr⟩ := H'.out.at_ hlt
          have g1 := (hb.cell (p := ⟨b, off + k, none⟩) hbb).trans hu
          unfold RB at hr
          subst hr
          obtain ⟨x, hx⟩ : ∃ x, xs[k]? = some x := ⟨_, List.getElem?_eq_getElem (by have := HL.out; omega)⟩
          have gx : (xorB xs (ys.take k))[k]? = some x := xorB_left _ _ k x hx (List.length_take_le _ _)
          have g2 := (hown.out.cellAt k (by omega)).trans (by rw [List.getElem?_map, gx, Option.map_some])
          have g3 := hown.out.frozenAt k
          have hz := xor_u8 x y
          have HZ := Lib.hid (xorB_take_succ xs ys k x y hx hy)
          obtain ⟨z, hze⟩ : ∃ z, z = x ^^^ y := ⟨_, rfl⟩
          rw [← hze] at hz HZ
          clear hu hx gx hy hze
          go_wp2
          have st := hown.out.stored k (.int .u8 (z.toNat : Int))
          rw [show ((xorB xs (ys.take k)).map (fun x => Value.int .u8 (x.toNat : Int))).set k (.int .u8 (z.toNat : Int)) = (xorB xs (ys.take (k + 1))).map (fun x => Value.int .u8 (x.toNat : Int)) by rw [HZ.out, List.map_set]] at st
          go_roundw
          case rel => exact ⟨k + 1, by omega, by go_num, st.1, hb.setCell hg1 _⟩
          case measure => simp [intOf]; omega
        · have hkm : k = m := by omega
          subst hkm
          go_wp2
          go_ret
          have ho := hown.out
          rw [List.take_of_length_le (by have := HM.out; omega)] at ho
          exact ⟨_, rfl, fresh_flatB ho (by rfl) (fun b hb => by simp [Value.ownBlock] at hb; omega) hb⟩
set_option maxHeartbeats 400000 in
theorem implCollideWrites_c (v1 v2 : Value) (xs ys : List UInt8) (w : World) (h1 : Rd RB w v1 xs) (h2 : Rd RB w v2 ys) (hn : xs.length ≤ 17592186044416) (hm : ys.length ≤ 17592186044416) :
    Calls Try.prog 24 #[v1, v2] w fun e w' => ∃ v', e = .returned v' ∧ Fresh (Own 5 FB) w w' v' (xorB xs ys) := by
  go_enter Try.func24, Try.ntmps24
  go_wp2_with fail
  refine (implXorBytes_c _ _ _ _ _ h1 h2 hn hm).mono ?_
  rintro e w1 ⟨v, rfl, F⟩
  go_wp2
  go_ret
  exact ⟨_, rfl, F⟩
end Go.Proofs.Ytokhogdocaeelaa
