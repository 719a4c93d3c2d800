/- Contracts of the laws' helpers over []byte and []int: copies, equality, marks. -/
import Derived.Test.YtokhogdocaeelaaEl
namespace Go.Proofs.Ytokhogdocaeelaa
set_option linter.unusedVariables false
open Go.RowKit

theorem take_succ_eq {α : Type} {xs : List α} (k : Nat) {x : α} (hx : xs[k]? = some x) : xs.take (k + 1) = xs.take k ++ [x] := take_succ_get xs k x hx

/-- The bytes that a mark lays. -/

def markB (k : Int) (n : Nat) : List UInt8 := (List.range n).map fun (i : Nat) => UInt8.ofInt (k + i)

def markI (k : Int) (n : Nat) : List Int := (List.range n).map fun (i : Nat) => k + i

theorem set_take_rep {α β : Type} (f : α → β) (z : β) (xs : List α) (n k : Nat) (hn : xs.length = n) (hk : k < n) (x : α) (hx : xs[k]? = some x) :
    ((xs.take k).map f ++ List.replicate (n - k) z).set k (f x) = (xs.take (k + 1)).map f ++ List.replicate (n - (k + 1)) z := by
  rw [take_succ_eq k hx, List.map_append, List.append_assoc]
  have hl : ((xs.take k).map f).length = k := by simp; omega
  rw [List.set_append, if_neg (by omega), hl, Nat.sub_self]
  rw [show n - k = (n - (k + 1)) + 1 by omega, List.replicate_succ]
  simp

theorem get_take_rep {α β : Type} (f : α → β) (z : β) (xs : List α) (n k : Nat) (hn : xs.length = n) (hk : k < n) :
    ((xs.take k).map f ++ List.replicate (n - k) z)[k]? = some z := by
  have hl : ((xs.take k).map f).length = k := by simp; omega
  rw [List.getElem?_append_right (by omega), hl, Nat.sub_self]
  simp [List.getElem?_replicate]; omega

set_option maxHeartbeats 400000 in

theorem beq_take {α : Type} {xs ys : List α} {n : Nat} (h1 : xs.length = n) (h2 : ys.length = n) (ht : xs.take n = ys.take n) : xs = ys := by
  rw [← List.take_of_length_le (Nat.le_of_eq h1), ht, List.take_of_length_le (Nat.le_of_eq h2)]

set_option maxHeartbeats 400000 in

set_option maxHeartbeats 400000 in

theorem mark_get {α β : Type} (f g : α → β) (xs : List α) (k : Nat) (y : α) (hy : xs[k]? = some y) {ms : List α} (hm : ms.length = k) :
    (ms.map f ++ (xs.drop k).map g)[k]? = some (g y) := by
  have hl : (ms.map f).length = k := by simpa using hm
  rw [List.getElem?_append_right (by omega), hl, Nat.sub_self]
  simp [hy]

theorem mark_set {α β : Type} (f : α → β) (ms : List α) (xs : List α) (k : Nat) (x : α) (hk : k < xs.length) (hm : ms.length = k) :
    (ms.map f ++ (xs.drop k).map f).set k (f x) = (ms ++ [x]).map f ++ (xs.drop (k + 1)).map f := by
  have hl : (ms.map f).length = k := by simpa using hm
  rw [List.set_append, if_neg (by omega), hl, Nat.sub_self, List.drop_eq_getElem_cons hk, List.map_cons, List.set_cons_zero]
  simp only [List.map_append, List.map_cons, List.map_nil, List.append_assoc, List.cons_append, List.nil_append]

theorem ofInt_toNat (z : Int) : ((UInt8.ofInt z).toNat : Int) = z % 256 := by
  have h : (UInt8.ofInt z).toNat = (z % 256).toNat := by
    simp [UInt8.ofInt]
    omega
  rw [h]; omega

theorem markB_succ (k0 : Int) (k : Nat) : markB k0 k ++ [UInt8.ofInt (k0 + k)] = markB k0 (k + 1) := by
  simp [markB, List.range_succ]

theorem markI_succ (k0 : Int) (k : Nat) : markI k0 k ++ [k0 + (k : Int)] = markI k0 (k + 1) := by
  simp [markI, List.range_succ]

set_option maxHeartbeats 400000 in

theorem markB_get (k0 : Int) (n k : Nat) (hk : k < n) : (markB k0 n)[k]? = some (UInt8.ofInt (k0 + k)) := by
  simp [markB, hk]

theorem markI_get (k0 : Int) (n k : Nat) (hk : k < n) : (markI k0 n)[k]? = some (k0 + k) := by
  simp [markI, hk]

theorem markB_len (k0 : Int) (n : Nat) : (markB k0 n).length = n := by simp [markB]

theorem markI_len (k0 : Int) (n : Nat) : (markI k0 n).length = n := by simp [markI]

set_option maxHeartbeats 400000 in

theorem toByteS_c (v : Value) (xs : List UInt8) (w : World) (h : Rd RB w v xs) (hn : xs.length ≤ 17592186044416) :
    Calls Try.prog 35 #[v] w fun e w' => ∃ v', e = .returned v' ∧ Fresh (Own 5 FB) w w' v' xs := by
  obtain ⟨A, n, c, rfl, h⟩ := h
  have hmk := run_mk elB .i64 .i64 n (by have := h.1; omega) (by have := h.1; omega)
  have hcm := h.2.2.1
  have hnc := h.2.1
  have hmx : n ≤ maxLen := Nat.le_trans hnc hcm
  unfold maxLen at hcm
  have H := Lib.hid h
  have HM := Lib.hid hmx
  clear h hmx
  go_enter Try.func35, Try.ntmps35
  go_wp2
  go_loopw [4] (fun i wr => ∃ k : Nat, k ≤ n ∧ i = .int .i64 k ∧ Hid (wr.ownsRow 0 5 1 (.slice (some ⟨w.heap.size, 0, none⟩) n n) n ((xs.take k).map (fun x => Value.int .u8 (x.toNat : Int)) ++ List.replicate (n - k) (.int .u8 0))) ∧ Below w.heap.size w wr ∧ w.heap.size < wr.heap.size) (fun i _ => n - (intOf i).toNat)
  case atStart => exact ⟨0, Nat.zero_le _, rfl, Lib.hid (by simpa using own_made w _ n HM.out), (Below.refl _ _).alloc (Nat.le_refl _) _, by simp⟩
  case round =>
    obtain ⟨k, hk, rfl, hown, hb, hsz⟩ := hrel
    by_cases hlt : k < n
    · obtain ⟨b, off, x, u, rfl, hbb, hx, hu, hr⟩ := H.out.at_ hlt
      have g1 := (hb.cell (p := ⟨b, off + k, none⟩) hbb).trans hu
      unfold RB at hr
      subst hr
      have g2 := (hown.out.cellAt k (by omega)).trans (get_take_rep _ _ xs n k H.out.1 hlt)
      have g3 := hown.out.frozenAt k
      clear hu hmk
      go_wp2
      have st := hown.out.stored k (.int .u8 (x.toNat : Int))
      rw [set_take_rep _ _ xs n k H.out.1 hlt x hx] at st
      go_roundw
      case rel => exact ⟨k + 1, by omega, by go_num, st.1, hb.setCell (Nat.le_refl _) _, by simpa using hsz⟩
      case measure => simp [intOf]; omega
    · go_wp2
      go_ret
      have hkn : k = n := by omega
      subst hkn
      have hown := hown.out
      rw [Nat.sub_self, List.take_of_length_le (Nat.le_of_eq H.out.1)] at hown
      refine ⟨_, rfl, fresh_flatB hown (by simp) ?_ hb⟩
      intro b hb'
      simp [Value.ownBlock] at hb'
      omega

theorem eqByteS_c (v1 v2 : Value) (xs : List UInt8) (w : World) (h1 : Rd RB w v1 xs) (h2 : Rd RB w v2 xs) :
    Calls Try.prog 36 #[v1, v2] w fun e w' => e = .returned (.bool true) ∧ Below w.heap.size w w' := by
  obtain ⟨A, n, c, rfl, h⟩ := h1
  obtain ⟨B, m, d, rfl, h'⟩ := h2
  obtain rfl : n = m := h.1.symm.trans h'.1
  have hcm := h.2.2.1
  have hnc := h.2.1
  unfold maxLen at hcm
  have H := Lib.hid h
  have H' := Lib.hid h'
  clear h h'
  go_enter Try.func36, Try.ntmps36
  go_wp2
  go_loopw [5] (fun i wr => ∃ k : Nat, k ≤ n ∧ i = .int .i64 k ∧ Below w.heap.size w wr) (fun i _ => n - (intOf i).toNat)
  case atStart => exact ⟨0, Nat.zero_le _, rfl, Below.refl _ _⟩
  case round =>
    obtain ⟨k, hk, rfl, hb⟩ := hrel
    by_cases hlt : k < n
    · obtain ⟨b, off, x, u, rfl, hbb, hx, hu, hr⟩ := H.out.at_ hlt
      obtain ⟨b', off', x', u', rfl, hbb', hx', hu', hr'⟩ := H'.out.at_ hlt
      obtain rfl : x = x' := by rw [hx] at hx'; injection hx'
      have g1 := (hb.cell (p := ⟨b, off + k, none⟩) hbb).trans hu
      have g2 := (hb.cell (p := ⟨b', off' + k, none⟩) hbb').trans hu'
      unfold RB at hr hr'
      subst hr hr'
      clear hu hu' hx hx'
      go_wp2
      go_quiet (fail)
      go_wp2
      go_roundw
      case rel => exact ⟨k + 1, by omega, by go_num, below_drewN hb _⟩
      case measure => simp [intOf]; omega
    · go_wp2
      go_ret
      exact ⟨rfl, hb⟩

theorem szByteS_c (v : Value) (xs : List UInt8) (l : Int) (w : World) (h : Rd RB w v xs) (hl : 0 ≤ l) (hl' : l ≤ 9223372036854775807) :
    Calls Try.prog 97 #[v, .int .i64 l] w fun e w' => e = .returned (.int .i64 (if l < xs.length then -1 else l - xs.length)) ∧ w = w' := by
  obtain ⟨A, n, c, rfl, h⟩ := h
  have hcm := h.2.2.1
  have hnc := h.2.1
  obtain rfl := h.1
  unfold maxLen at hcm
  clear h
  by_cases hc : l < xs.length
  · rw [if_pos hc]
    go_enter Try.func97, Try.ntmps97
    go_wp2
    go_ret
    exact ⟨rfl, rfl⟩
  · rw [if_neg hc]
    go_enter Try.func97, Try.ntmps97
    go_wp2
    go_ret
    exact ⟨rfl, rfl⟩

theorem markByteS_c (lo hi : Nat) (v : Value) (xs : List UInt8) (k0 : Int) (w : World) (h : Iv (Own 5 FB) lo hi w v xs) (hk0 : 0 ≤ k0) (hk : k0 + xs.length ≤ 4611686018427387904) :
    Calls Try.prog 37 #[v, .int .i64 k0] w fun e w' => e = .returned (.int .i64 (k0 + xs.length)) ∧ Iv (Own 5 FB) lo hi w' v (markB k0 xs.length) ∧ Chg lo hi w w' := by
  rcases Iv_flatB h with ⟨rfl, rfl⟩ | ⟨g, cap, rfl, hnc, hcm, hlo, hhi, hown0⟩
  · go_enter Try.func37, Try.ntmps37
    go_wp2
    refine wp_loop_rounds 1 ?_
    rw [rounds_succ]
    go_wp2
    go_ret
    exact ⟨ret_int (by simp), by simpa [markB] using h, Chg.refl _ _ _⟩
  · clear h
    obtain ⟨n, hn⟩ : ∃ n, xs.length = n := ⟨_, rfl⟩
    rw [hn] at hown0 hk hnc ⊢
    unfold maxLen at hcm
    have HH := Lib.hid hown0
    have HN := Lib.hid hn
    clear hown0 hn
    go_enter Try.func37, Try.ntmps37
    go_wp2
    go_loopw [1, 5] (fun kk i wr => ∃ k : Nat, k ≤ n ∧ i = .int .i64 k ∧ kk = .int .i64 (k0 + k) ∧ Hid (wr.ownsRow 0 5 1 (.slice (some ⟨g, 0, none⟩) n cap) n ((markB k0 k).map (fun x => Value.int .u8 (x.toNat : Int)) ++ (xs.drop k).map (fun x => Value.int .u8 (x.toNat : Int)))) ∧ Chg lo hi w wr) (fun _ i _ => n - (intOf i).toNat)
    case atStart => exact ⟨0, Nat.zero_le _, rfl, by go_num, Lib.hid (by simpa [markB] using HH.out), Chg.refl _ _ _⟩
    case round =>
      obtain ⟨k, hk', rfl, rfl, hown, hb⟩ := hrel
      by_cases hlt : k < n
      · obtain ⟨y, hy⟩ : ∃ y, xs[k]? = some y := ⟨_, List.getElem?_eq_getElem (by have := HN.out; omega)⟩
        have g2 := (hown.out.cellAt k (by omega)).trans (mark_get _ _ xs k y hy (by simp [markB]))
        have g3 := hown.out.frozenAt k
        clear hy
        go_wp2
        have st := hown.out.stored k (.int .u8 ((UInt8.ofInt (k0 + k)).toNat : Int))
        rw [mark_set _ (markB k0 k) xs k _ (by have := HN.out; omega) (by simp [markB])] at st
        rw [markB_succ, ofInt_toNat] at st
        go_roundw
        case rel => exact ⟨k + 1, by omega, by go_num, by go_num, st.1, hb.setCell hlo hhi _⟩
        case measure => simp [intOf]; omega
      · go_wp2
        go_ret
        have hkn : k = n := by omega
        subst hkn
        exact ⟨rfl, Iv_mkB hown.out (by simp [HN.out]) hlo hhi, hb⟩

theorem heldByteS_c (v : Value) (n : Nat) (k0 : Int) (w : World) (h : Rd RB w v (markB k0 n)) (hk0 : 0 ≤ k0) (hk : k0 + n ≤ 4611686018427387904) :
    Calls Try.prog 53 #[v, .int .i64 k0] w fun e w' => e = .returned (.int .i64 (k0 + n)) ∧ Below w.heap.size w w' := by
  obtain ⟨A, n', c, rfl, h⟩ := h
  obtain rfl : n = n' := by have := h.1; rw [markB_len] at this; exact this
  have hcm := h.2.2.1
  have hnc := h.2.1
  unfold maxLen at hcm
  have H := Lib.hid h
  clear h
  go_enter Try.func53, Try.ntmps53
  go_wp2
  go_loopw [1, 5] (fun kk i wr => ∃ k : Nat, k ≤ n ∧ i = .int .i64 k ∧ kk = .int .i64 (k0 + k) ∧ Below w.heap.size w wr) (fun _ i _ => n - (intOf i).toNat)
  case atStart => exact ⟨0, Nat.zero_le _, rfl, by go_num, Below.refl _ _⟩
  case round =>
    obtain ⟨k, hk', rfl, rfl, hb⟩ := hrel
    by_cases hlt : k < n
    · obtain ⟨b, off, x, u, rfl, hbb, hx, hu, hr⟩ := H.out.at_ hlt
      have g1 := (hb.cell (p := ⟨b, off + k, none⟩) hbb).trans hu
      unfold RB at hr
      obtain rfl : x = UInt8.ofInt (k0 + k) := by rw [markB_get k0 n k hlt] at hx; injection hx with e; exact e.symm
      rw [ofInt_toNat] at hr
      subst hr
      clear hu hx
      go_wp2
      go_roundw
      case rel => exact ⟨k + 1, by omega, by go_num, by go_num, hb⟩
      case measure => simp [intOf]; omega
    · go_wp2
      go_ret
      have hkn : k = n := by omega
      subst hkn
      exact ⟨rfl, hb⟩

theorem rd_bytes {lo hi : Nat} {w : World} {v : Value} {xs : List UInt8} (h : Iv (Own 5 FB) lo hi w v xs) : Rd RB w v xs := h.rd (fun k => k.rb)

theorem to_bytes (v : Value) (xs : List UInt8) (w : World) (h : Rd RB w v xs) (hn : xs.length ≤ 17592186044416) :
    Calls Try.prog 35 #[v] w fun e w' => ∃ v', e = .returned v' ∧ Fresh (Own 5 FB) w w' v' xs := toByteS_c v xs w h hn
theorem eq_bytes (v1 v2 : Value) (xs : List UInt8) (w : World) (h1 : Rd RB w v1 xs) (h2 : Rd RB w v2 xs) :
    Calls Try.prog 36 #[v1, v2] w fun e w' => e = .returned (.bool true) ∧ Below w.heap.size w w' := eqByteS_c v1 v2 xs w h1 h2
theorem mark_bytes (lo hi : Nat) (v : Value) (xs : List UInt8) (k0 : Int) (w : World) (h : Iv (Own 5 FB) lo hi w v xs) (hk0 : 0 ≤ k0) (hk : k0 + xs.length ≤ 4611686018427387904) :
    Calls Try.prog 37 #[v, .int .i64 k0] w fun e w' => e = .returned (.int .i64 (k0 + xs.length)) ∧ Iv (Own 5 FB) lo hi w' v (markB k0 xs.length) ∧ Chg lo hi w w' := markByteS_c lo hi v xs k0 w h hk0 hk
theorem held_bytes (v : Value) (xs : List UInt8) (k0 : Int) (w : World) (h : Rd RB w v (markB k0 xs.length)) (hk0 : 0 ≤ k0) (hk : k0 + xs.length ≤ 4611686018427387904) :
    Calls Try.prog 53 #[v, .int .i64 k0] w fun e w' => e = .returned (.int .i64 (k0 + xs.length)) ∧ Below w.heap.size w w' := heldByteS_c v xs.length k0 w h hk0 hk
theorem toIntS_c (v : Value) (xs : List Int) (w : World) (h : Rd RI w v xs) (hn : xs.length ≤ 17592186044416) :
    Calls Try.prog 38 #[v] w fun e w' => ∃ v', e = .returned v' ∧ Fresh (Own 3 FI) w w' v' xs := by
  obtain ⟨A, n, c, rfl, h⟩ := h
  have hmk := run_mk elI .i64 .i64 n (by have := h.1; omega) (by have := h.1; omega)
  have hcm := h.2.2.1
  have hnc := h.2.1
  have hmx : n ≤ maxLen := Nat.le_trans hnc hcm
  unfold maxLen at hcm
  have H := Lib.hid h
  have HM := Lib.hid hmx
  clear h hmx
  go_enter Try.func38, Try.ntmps38
  go_wp2
  go_loopw [4] (fun i wr => ∃ k : Nat, k ≤ n ∧ i = .int .i64 k ∧ Hid (wr.ownsRow 0 3 1 (.slice (some ⟨w.heap.size, 0, none⟩) n n) n ((xs.take k).map (fun x => Value.int .i64 x) ++ List.replicate (n - k) (.int .i64 0))) ∧ Below w.heap.size w wr ∧ w.heap.size < wr.heap.size) (fun i _ => n - (intOf i).toNat)
  case atStart => exact ⟨0, Nat.zero_le _, rfl, Lib.hid (by simpa using own_made w _ n HM.out), (Below.refl _ _).alloc (Nat.le_refl _) _, by simp⟩
  case round =>
    obtain ⟨k, hk, rfl, hown, hb, hsz⟩ := hrel
    by_cases hlt : k < n
    · obtain ⟨b, off, x, u, rfl, hbb, hx, hu, hr⟩ := H.out.at_ hlt
      have g1 := (hb.cell (p := ⟨b, off + k, none⟩) hbb).trans hu
      unfold RI at hr
      subst hr
      have g2 := (hown.out.cellAt k (by omega)).trans (get_take_rep _ _ xs n k H.out.1 hlt)
      have g3 := hown.out.frozenAt k
      clear hu hmk
      go_wp2
      have st := hown.out.stored k (.int .i64 x)
      rw [set_take_rep _ _ xs n k H.out.1 hlt x hx] at st
      go_roundw
      case rel => exact ⟨k + 1, by omega, by go_num, st.1, hb.setCell (Nat.le_refl _) _, by simpa using hsz⟩
      case measure => simp [intOf]; omega
    · go_wp2
      go_ret
      have hkn : k = n := by omega
      subst hkn
      have hown := hown.out
      rw [Nat.sub_self, List.take_of_length_le (Nat.le_of_eq H.out.1)] at hown
      refine ⟨_, rfl, fresh_flatI hown (by simp) ?_ hb⟩
      intro b hb'
      simp [Value.ownBlock] at hb'
      omega

theorem eqIntS_c (v1 v2 : Value) (xs : List Int) (w : World) (h1 : Rd RI w v1 xs) (h2 : Rd RI w v2 xs) :
    Calls Try.prog 39 #[v1, v2] w fun e w' => e = .returned (.bool true) ∧ Below w.heap.size w w' := by
  obtain ⟨A, n, c, rfl, h⟩ := h1
  obtain ⟨B, m, d, rfl, h'⟩ := h2
  obtain rfl : n = m := h.1.symm.trans h'.1
  have hcm := h.2.2.1
  have hnc := h.2.1
  unfold maxLen at hcm
  have H := Lib.hid h
  have H' := Lib.hid h'
  clear h h'
  go_enter Try.func39, Try.ntmps39
  go_wp2
  go_loopw [5] (fun i wr => ∃ k : Nat, k ≤ n ∧ i = .int .i64 k ∧ Below w.heap.size w wr) (fun i _ => n - (intOf i).toNat)
  case atStart => exact ⟨0, Nat.zero_le _, rfl, Below.refl _ _⟩
  case round =>
    obtain ⟨k, hk, rfl, hb⟩ := hrel
    by_cases hlt : k < n
    · obtain ⟨b, off, x, u, rfl, hbb, hx, hu, hr⟩ := H.out.at_ hlt
      obtain ⟨b', off', x', u', rfl, hbb', hx', hu', hr'⟩ := H'.out.at_ hlt
      obtain rfl : x = x' := by rw [hx] at hx'; injection hx'
      have g1 := (hb.cell (p := ⟨b, off + k, none⟩) hbb).trans hu
      have g2 := (hb.cell (p := ⟨b', off' + k, none⟩) hbb').trans hu'
      unfold RI at hr hr'
      subst hr hr'
      clear hu hu' hx hx'
      go_wp2
      go_quiet (fail)
      go_wp2
      go_roundw
      case rel => exact ⟨k + 1, by omega, by go_num, below_drewN hb _⟩
      case measure => simp [intOf]; omega
    · go_wp2
      go_ret
      exact ⟨rfl, hb⟩


theorem markIntS_c (lo hi : Nat) (v : Value) (xs : List Int) (k0 : Int) (w : World) (h : Iv (Own 3 FI) lo hi w v xs) (hk0 : 0 ≤ k0) (hk : k0 + xs.length ≤ 4611686018427387904) :
    Calls Try.prog 40 #[v, .int .i64 k0] w fun e w' => e = .returned (.int .i64 (k0 + xs.length)) ∧ Iv (Own 3 FI) lo hi w' v (markI k0 xs.length) ∧ Chg lo hi w w' := by
  rcases Iv_flatI h with ⟨rfl, rfl⟩ | ⟨g, cap, rfl, hnc, hcm, hlo, hhi, hown0⟩
  · go_enter Try.func40, Try.ntmps40
    go_wp2
    refine wp_loop_rounds 1 ?_
    rw [rounds_succ]
    go_wp2
    go_ret
    exact ⟨ret_int (by simp), by simpa [markI] using h, Chg.refl _ _ _⟩
  · clear h
    obtain ⟨n, hn⟩ : ∃ n, xs.length = n := ⟨_, rfl⟩
    rw [hn] at hown0 hk hnc ⊢
    unfold maxLen at hcm
    have HH := Lib.hid hown0
    have HN := Lib.hid hn
    clear hown0 hn
    go_enter Try.func40, Try.ntmps40
    go_wp2
    go_loopw [1, 5] (fun kk i wr => ∃ k : Nat, k ≤ n ∧ i = .int .i64 k ∧ kk = .int .i64 (k0 + k) ∧ Hid (wr.ownsRow 0 3 1 (.slice (some ⟨g, 0, none⟩) n cap) n ((markI k0 k).map (fun x => Value.int .i64 x) ++ (xs.drop k).map (fun x => Value.int .i64 x))) ∧ Chg lo hi w wr) (fun _ i _ => n - (intOf i).toNat)
    case atStart => exact ⟨0, Nat.zero_le _, rfl, by go_num, Lib.hid (by simpa [markI] using HH.out), Chg.refl _ _ _⟩
    case round =>
      obtain ⟨k, hk', rfl, rfl, hown, hb⟩ := hrel
      by_cases hlt : k < n
      · obtain ⟨y, hy⟩ : ∃ y, xs[k]? = some y := ⟨_, List.getElem?_eq_getElem (by have := HN.out; omega)⟩
        have g2 := (hown.out.cellAt k (by omega)).trans (mark_get _ _ xs k y hy (by simp [markI]))
        have g3 := hown.out.frozenAt k
        clear hy
        go_wp2
        have st := hown.out.stored k (.int .i64 (k0 + (k : Int)))
        rw [mark_set _ (markI k0 k) xs k _ (by have := HN.out; omega) (by simp [markI])] at st
        rw [markI_succ] at st
        go_roundw
        case rel => exact ⟨k + 1, by omega, by go_num, by go_num, st.1, hb.setCell hlo hhi _⟩
        case measure => simp [intOf]; omega
      · go_wp2
        go_ret
        have hkn : k = n := by omega
        subst hkn
        exact ⟨rfl, Iv_mkI hown.out (by simp [HN.out]) hlo hhi, hb⟩


theorem rd_ints {lo hi : Nat} {w : World} {v : Value} {xs : List Int} (h : Iv (Own 3 FI) lo hi w v xs) : Rd RI w v xs := h.rd (fun k => k.ri)

theorem to_ints (v : Value) (xs : List Int) (w : World) (h : Rd RI w v xs) (hn : xs.length ≤ 17592186044416) :
    Calls Try.prog 38 #[v] w fun e w' => ∃ v', e = .returned v' ∧ Fresh (Own 3 FI) w w' v' xs := toIntS_c v xs w h hn
theorem eq_ints (v1 v2 : Value) (xs : List Int) (w : World) (h1 : Rd RI w v1 xs) (h2 : Rd RI w v2 xs) :
    Calls Try.prog 39 #[v1, v2] w fun e w' => e = .returned (.bool true) ∧ Below w.heap.size w w' := eqIntS_c v1 v2 xs w h1 h2
theorem mark_ints (lo hi : Nat) (v : Value) (xs : List Int) (k0 : Int) (w : World) (h : Iv (Own 3 FI) lo hi w v xs) (hk0 : 0 ≤ k0) (hk : k0 + xs.length ≤ 4611686018427387904) :
    Calls Try.prog 40 #[v, .int .i64 k0] w fun e w' => e = .returned (.int .i64 (k0 + xs.length)) ∧ Iv (Own 3 FI) lo hi w' v (markI k0 xs.length) ∧ Chg lo hi w w' := markIntS_c lo hi v xs k0 w h hk0 hk
end Go.Proofs.Ytokhogdocaeelaa
