/- Contracts of the laws' helpers over Database. -/
import Derived.Test.YtokhogdocaeelaaNestFns
import Derived.Test.YtokhogdocaeelaaInR
import Derived.Deep.RegionLaw
namespace Go.Proofs.Ytokhogdocaeelaa
set_option linter.unusedVariables false
open Go.RowKit

theorem rd_db {lo hi : Nat} {w : World} {v : Value} {xs : List (List UInt8)} (h : Iv OBB lo hi w v xs) : Rd (Rd RB) w v xs := rd_bytess h

set_option maxHeartbeats 1000000 in
theorem eq_db (v1 v2 : Value) (x : List (List UInt8)) (w : World) (h1 : Rd (Rd RB) w v1 x) (h2 : Rd (Rd RB) w v2 x) :
    Calls Try.prog 29 #[.agg #[v1], .agg #[v2]] w fun e w' => e = .returned (.bool true) ∧ Below w.heap.size w w' := by
  obtain ⟨A, l, c, rfl, h1'⟩ := h1
  obtain ⟨B, k, d, rfl, h2'⟩ := h2
  have h1 : Rd (Rd RB) w (.slice A l c) x := ⟨_, _, _, rfl, h1'⟩
  have h2 : Rd (Rd RB) w (.slice B k d) x := ⟨_, _, _, rfl, h2'⟩
  clear h1' h2'
  go_enter Try.func29, Try.ntmps29
  go_wp2_with fail
  refine (eq_bytess _ _ _ _ (Rd_reads (Rd_reads RB_reads) _ _ _ _ h1 ?_) (Rd_reads (Rd_reads RB_reads) _ _ _ _ h2 ?_)).mono ?_
  · (repeat (first | exact Below.refl _ _ | refine Below.alloc ?_ (by simp; try omega) _ | refine Below.setCell ?_ (by simp; try omega) _))
  · (repeat (first | exact Below.refl _ _ | refine Below.alloc ?_ (by simp; try omega) _ | refine Below.setCell ?_ (by simp; try omega) _))
  rintro e w1 ⟨rfl, b⟩
  go_wp2
  go_ret
  exact ⟨rfl, Below.trans (b := (w.alloc (.cells #[.slice A l c] 31)).alloc (.cells #[.slice B k d] 31)) (by (repeat (first | exact Below.refl _ _ | refine Below.alloc ?_ (by simp; try omega) _ | refine Below.setCell ?_ (by simp; try omega) _))) (b.mono (by simp; omega))⟩
set_option maxHeartbeats 1000000 in
theorem sz_db (v : Value) (xs : List (List UInt8)) (l : Int) (w : World) (h : Rd (Rd RB) w v xs) (hl : 0 ≤ l) (hl' : l ≤ 9223372036854775807) :
    Calls Try.prog 81 #[.agg #[v], .int .i64 l] w fun e w' => e = .returned (.int .i64 (if l < (tot xs : Nat) then -1 else l - (tot xs : Nat))) ∧ Below w.heap.size w w' := by
  obtain ⟨A, n, c, rfl, h'⟩ := h
  have h : Rd (Rd RB) w (.slice A n c) xs := ⟨_, _, _, rfl, h'⟩
  clear h'
  have b0 := below_alloc w (.cells #[.slice A n c] 89)
  have r1 := Rd_reads (Rd_reads RB_reads) _ _ _ _ h b0
  by_cases hc : l < (tot xs : Nat)
  · rw [if_pos hc]
    go_enter Try.func81, Try.ntmps81
    go_wp2_with fail
    refine (sz_bytess _ _ _ _ r1 hl hl').mono ?_
    rintro e w1 ⟨rfl, b⟩
    rw [if_pos hc]
    go_wp2
    go_ret
    exact ⟨rfl, b0.trans (b.mono b0.size)⟩
  · rw [if_neg hc]
    go_enter Try.func81, Try.ntmps81
    go_wp2_with fail
    refine (sz_bytess _ _ _ _ r1 hl hl').mono ?_
    rintro e w1 ⟨rfl, b⟩
    rw [if_neg (by omega)]
    go_wp2
    go_ret
    exact ⟨rfl, b0.trans (b.mono b0.size)⟩
set_option maxHeartbeats 2000000 in
theorem to_db (v : Value) (xs : List (List UInt8)) (w : World) (h : Rd (Rd RB) w v xs) (hn : tot xs ≤ 1048576) :
    Calls Try.prog 82 #[.agg #[v]] w fun e w' => ∃ A l c, e = .returned (.agg #[.slice A l c]) ∧ Fresh OBB w w' (.slice A l c) xs := by
  obtain ⟨A, n, c, rfl, h'⟩ := h
  have h : Rd (Rd RB) w (.slice A n c) xs := ⟨_, _, _, rfl, h'⟩
  clear h'
  go_enter Try.func82, Try.ntmps82
  go_wp2_with fail
  refine (to_bytess _ _ _ (Rd_reads (Rd_reads RB_reads) _ _ _ _ h ?_) hn).mono ?_
  · (repeat (first | exact Below.refl _ _ | refine Below.alloc ?_ (by simp; try omega) _ | refine Below.setCell ?_ (by simp; try omega) _))
  rintro e w1 ⟨v1, rfl, F⟩
  obtain ⟨A1, l1, c1, hv⟩ : ∃ A l c, v1 = .slice A l c := fresh_slice F
  rw [hv] at F ⊢
  have G := Fresh.g (w := w) F (by (repeat (first | exact Below.refl _ _ | refine Below.alloc ?_ (by simp; try omega) _ | refine Below.setCell ?_ (by simp; try omega) _)))
  have hz := F.below.size
  obtain ⟨hc, hf⟩ := below_cells F.below
  simp at hz G
  clear F hv h
  go_wp2
  refine bodyPost_ret (v := .agg #[.slice A1 l1 c1]) (by simp [results, Try.results82, go_sem, hc]) rfl ⟨_, _, _, rfl, FreshG.fresh (lo := w.heap.size + 3) ?_ (by omega)⟩
  repeat (first | exact G | refine FreshG.set OBB_good ?_ (by simp; try omega) (by simp; try omega) _ | refine FreshG.alloc OBB_good ?_ _)
set_option maxHeartbeats 1000000 in
theorem mark_db (lo hi : Nat) (v : Value) (xs : List (List UInt8)) (k0 : Int) (w : World) (h : Iv OBB lo hi w v xs) (hk0 : 0 ≤ k0) (hk : k0 + sumL xs ≤ 4611686018427387904) :
    Calls Try.prog 32 #[.agg #[v], .int .i64 k0] w fun e w' => e = .returned (.int .i64 (k0 + sumL xs)) ∧ Iv OBB lo hi w' v (markBB k0 xs) ∧ Chg lo hi w w' := by
  obtain ⟨A, l, c, rfl, _⟩ := rd_bytess h
  go_enter Try.func32, Try.ntmps32
  go_wp2_with fail
  have b0 := below_alloc w (.cells #[.slice A l c] 31)
  refine (mark_bytess lo hi _ xs _ _ (h.below OBB_good b0) hk0 hk).mono ?_
  rintro e w1 ⟨rfl, f, ch⟩
  go_wp2
  go_ret
  exact ⟨rfl, f, (Chg.of_below b0).trans ch⟩
set_option maxHeartbeats 1000000 in
theorem held_db (v : Value) (xs : List (List UInt8)) (k0 : Int) (w : World) (h : Rd (Rd RB) w v (markBB k0 xs)) (hk0 : 0 ≤ k0) (hk : k0 + sumL xs ≤ 4611686018427387904) :
    Calls Try.prog 33 #[.agg #[v], .int .i64 k0] w fun e w' => e = .returned (.int .i64 (k0 + sumL xs)) ∧ Below w.heap.size w w' := by
  obtain ⟨A, l, c, rfl, h'⟩ := h
  have h : Rd (Rd RB) w (.slice A l c) (markBB k0 xs) := ⟨_, _, _, rfl, h'⟩
  clear h'
  go_enter Try.func33, Try.ntmps33
  go_wp2_with fail
  have b0 := below_alloc w (.cells #[.slice A l c] 31)
  refine (held_bytess _ xs _ _ (Rd_reads (Rd_reads RB_reads) _ _ _ _ h b0) hk0 hk).mono ?_
  rintro e w1 ⟨rfl, b⟩
  go_wp2
  go_ret
  exact ⟨rfl, b0.trans (b.mono (by simp))⟩
/-- A zero cell. -/
def zcell : List UInt8 := List.replicate 24 0
def newDb (r : Int) : List (List UInt8) := if 0 ≤ r ∧ r ≤ 64 then List.replicate r.toNat zcell else []

theorem fresh_made (w : World) (n : Nat) (h : n ≤ maxLen) : Fresh (Own 5 FB) w (w.alloc (.cells (madeCells #[.int .u8 0] n) 5)) (.slice (some ⟨w.heap.size, 0, none⟩) n n) (List.replicate n (0 : UInt8)) :=
  fresh_flatB (own_made w _ n h) (by simp) (fun b hb => by simp [Value.ownBlock] at hb; omega) (below_alloc w _)

set_option maxHeartbeats 4000000 in
set_option maxRecDepth 100000 in
theorem specNewDatabase_c (r : Int) (w : World) (hr : -9223372036854775808 ≤ r) (hr' : r ≤ 9223372036854775807) :
    Calls Try.prog 71 #[.int .i64 r] w fun e w' => ∃ A l c, e = .returned (.agg #[.slice A l c]) ∧ Fresh OBB w w' (.slice A l c) (newDb r) := by
  have hmk : ∀ W : World, (Instr.makeSlice 22 (.int .i64 24) (.int .i64 24)).run Try.prog W = .ok (.slice (some ⟨W.heap.size, 0, none⟩) 24 24) (W.alloc (.cells (madeCells #[.int .u8 0] 24) 5)) := fun W => by
    simpa using run_mk elB .i64 .i64 24 (by omega) (by omega) W
  by_cases h64 : 0 ≤ r ∧ r ≤ 64
  · obtain ⟨n, rfl⟩ := Int.eq_ofNat_of_zero_le h64.1
    have hn : n ≤ 64 := by omega
    have e0 : newDb (n : Int) = List.replicate n zcell := by unfold newDb; rw [if_pos h64, Int.toNat_natCast]
    rw [e0]
    clear e0 hr hr' h64
    have z24 : List.replicate 24 (0 : UInt8) = zcell := rfl
    have Z := Lib.hid z24
    clear z24
    go_enter Try.func71, Try.ntmps71
    go_wp2
    go_loopw [4] (fun i wr => ∃ (k : Nat) (v : Value), k ≤ n ∧ i = .int .i64 k ∧ Hid (NRow 22 (Own 5 FB) (w.heap.size + 2) wr v k (List.replicate k zcell) []) ∧ Hid (Box wr w.heap.size 31 #[.slice none 0 0]) ∧ Hid (Box wr (w.heap.size + 1) 31 #[v]) ∧ Below w.heap.size w wr) (fun i _ => n - (intOf i).toNat)
    case atStart => exact ⟨0, _, Nat.zero_le _, rfl, Lib.hid (NRow_nil _), Lib.hid ((Box.new _ _ _).alloc _), Lib.hid (by have := Box.new (w.alloc (.cells #[.slice none 0 0] 31)) 31 #[.slice none 0 0]; simpa using this), (below_alloc _ _).alloc (by simp) _⟩
    case round =>
      obtain ⟨k, v, hk, rfl, hrow, hb0, hb1, hb⟩ := hrel
      by_cases hlt : k < n
      · obtain ⟨cells, F, k1, k2, k3, k4⟩ := hrow.out.open_
        have c1 : wr.cell? ⟨w.heap.size + 1, 0, none⟩ = some v := hb1.out.cell 0
        have f1 := hb1.out.frozen 0
        have K := Lib.hid (And.intro k2 (And.intro k3 k4))
        have hs := hb1.out.lt
        clear k2 k3 k4
        have HOWN : (((wr.alloc (.cells (madeCells #[.int .u8 0] 24) 5)).alloc (.cells #[.slice (some ⟨wr.heap.size, 0, none⟩) 24 24] 22)).drew).ownsRow 0 22 1 v k cells := (k1.alloc _).alloc _
        have HSRC : Src (((wr.alloc (.cells (madeCells #[.int .u8 0] 24) 5)).alloc (.cells #[.slice (some ⟨wr.heap.size, 0, none⟩) 24 24] 22)).drew) (some ⟨wr.heap.size + 1, 0, none⟩) 1 [.slice (some ⟨wr.heap.size, 0, none⟩) 24 24] := by
          have := Src_one (wr.alloc (.cells (madeCells #[.int .u8 0] 24) 5)) (.slice (some ⟨wr.heap.size, 0, none⟩) 24 24) 22
          rw [World.size_alloc] at this
          exact this
        have BX : Hid (Box (((wr.alloc (.cells (madeCells #[.int .u8 0] 24) 5)).alloc (.cells #[.slice (some ⟨wr.heap.size, 0, none⟩) 24 24] 22)).drew) (w.heap.size + 1) 31 #[v]) := (hb1.out.alloc _).alloc _
        have cL1 : (wr.alloc (.cells (madeCells #[.int .u8 0] 24) 5)).cell? ⟨w.heap.size + 1, 0, none⟩ = some v := (hb1.out.alloc _).cell 0
        have cL2 : ((wr.alloc (.cells (madeCells #[.int .u8 0] 24) 5)).alloc (.cells #[.slice (some ⟨wr.heap.size, 0, none⟩) 24 24] 22)).cell? ⟨w.heap.size + 1, 0, none⟩ = some v := ((hb1.out.alloc _).alloc _).cell 0
        have BX0 : Hid (Box (((wr.alloc (.cells (madeCells #[.int .u8 0] 24) 5)).alloc (.cells #[.slice (some ⟨wr.heap.size, 0, none⟩) 24 24] 22)).drew) w.heap.size 31 #[.slice none 0 0]) := (hb0.out.alloc _).alloc _
        have FU : Hid (Fresh (Own 5 FB) wr (wr.alloc (.cells (madeCells #[.int .u8 0] 24) 5)) (.slice (some ⟨wr.heap.size, 0, none⟩) 24 24) zcell) := Lib.hid (by have := fresh_made wr 24 (by simp [maxLen]); rw [Z.out] at this; exact this)
        have kv : v.ownBlock ≠ some (w.heap.size + 1) := fun e => by have := K.out.2.2 (w.heap.size + 1) (by rw [e]; simp); omega
        go_wp2_with fail
        go_region_law (first | (refine step_app elBB (by rfl) _ _ (by rfl) v k cells (by rfl) HOWN _ 1 1 [.slice (some ⟨wr.heap.size, 0, none⟩) 24 24] (by rfl) HSRC (one_single _ rfl) (by simp only [maxLen]; omega) (by omega) ?_; intro v' w2 hown hg hat; obtain ⟨A', l', c', rfl⟩ := own_shape hown; have bx2 : Box w2 (w.heap.size + 1) 31 #[v] := Box.grown (w := World.drew _) (BX.out) hg (Ne.symm kv); have c2 : w2.cell? ⟨w.heap.size + 1, 0, none⟩ = some v := bx2.cell 0; have f2 := bx2.frozen 0))
        all_goals
          have r0 := NRow.app (B := w.heap.size + 2) (Own_good FB_good) k1 K.out.1 K.out.2.1 K.out.2.2 FU.out (by omega) hown (grown_drew hg) hat
          have r1 : NRow 22 (Own 5 FB) (w.heap.size + 2) (w2.setCell ⟨w.heap.size + 1, 0, none⟩ (.slice A' l' c')) (.slice A' l' c') (k + 1) (List.replicate (k + 1) zcell) [] := by
            rw [List.replicate_succ']
            exact r0.setLow (Own_good FB_good) (Nat.lt_succ_self _) _
          have rb : Below w.heap.size w w2 := NRow.app_below (w1 := wr.alloc (.cells (madeCells #[.int .u8 0] 24) 5)) (hb.alloc (by omega) _) (by simp; omega) (fun b hb' => by have := K.out.2.2 b (List.mem_append_left _ (by simpa using hb')); omega) (grown_drew hg)
          have b0 : Box w2 w.heap.size 31 #[.slice none 0 0] := Box.grown (w := World.drew _) BX0.out hg (fun e => by have := K.out.2.2 w.heap.size (by rw [← e]; simp); omega)
          have R1 := Lib.hid r1
          have B0 := Lib.hid (Box.far b0 (p := ⟨w.heap.size + 1, 0, none⟩) (by simp) (.slice A' l' c'))
          have B1 := Lib.hid (bx2.set_ 0 (.slice A' l' c'))
          have RB := Lib.hid (rb.setCell (p := ⟨w.heap.size + 1, 0, none⟩) (by simp) (.slice A' l' c'))
          clear r0 r1 rb b0 bx2 c2 f2 hown hg hat cL1 cL2 HOWN HSRC BX BX0 FU kv k1 K c1 f1
          go_wp2
          go_roundw
          case rel => exact ⟨k + 1, _, by omega, by go_num, R1, B0, B1, RB.out⟩
          case measure => simp [intOf]; omega
      · have hkn : k = n := by omega
        subst hkn
        have c0 : wr.cell? ⟨w.heap.size, 0, none⟩ = some (.slice none 0 0) := hb0.out.cell 0
        have f0 := hb0.out.frozen 0
        obtain ⟨A', l', c', hv⟩ : ∃ A' l' c', v = .slice A' l' c' := by
          rcases hrow.out.form with ⟨h, _⟩ | ⟨g, cap, h, _⟩
          · exact ⟨_, _, _, h⟩
          · exact ⟨_, _, _, h⟩
        rw [hv] at hb1 hrow
        have c1 : wr.cell? ⟨w.heap.size + 1, 0, none⟩ = some (.slice A' l' c') := hb1.out.cell 0
        have hl := hb1.out.lt
        have hrow2 := hrow.out.setLow (Own_good FB_good) (p := ⟨w.heap.size, 0, none⟩) (by simp) (.slice A' l' c')
        have F := Lib.hid (hrow2.fresh_ (hb.setCell (p := ⟨w.heap.size, 0, none⟩) (Nat.le_refl _) _) (by omega))
        have cr := (hb0.out.set_ 0 (.slice A' l' c')).cell 0
        clear hv hrow hrow2 hb0 hb1
        go_wp2
        refine bodyPost_ret (v := .agg #[.slice A' l' c']) (by simp [results, Try.results71, go_sem, cr]) rfl ⟨_, _, _, rfl, F.out⟩
  · have e0 : newDb r = [] := by unfold newDb; rw [if_neg h64]
    rw [e0]
    have F : Fresh OBB w ((w.alloc (.cells #[.slice none 0 0] 31)).alloc (.cells #[.slice none 0 0] 31)) (.slice none 0 0) [] := (NRow_nil (B := w.heap.size) _).fresh_ (by (repeat (first | exact Below.refl _ _ | refine Below.alloc ?_ (by simp; try omega) _ | refine Below.setCell ?_ (by simp; try omega) _))) (Nat.le_refl _)
    have HF := Lib.hid F
    clear F e0
    by_cases hneg : r < 0
    all_goals
      go_enter Try.func71, Try.ntmps71
      go_wp2
      refine wp_loop_rounds 1 ?_
      rw [rounds_succ]
      go_wp2
      refine bodyPost_ret (v := .agg #[.slice none 0 0]) (by simp [results, Try.results71, go_sem]) rfl ⟨_, _, _, rfl, HF.out⟩
set_option maxHeartbeats 4000000 in
set_option maxRecDepth 100000 in
theorem implNewDatabase_c (r : Int) (w : World) (hr : -9223372036854775808 ≤ r) (hr' : r ≤ 9223372036854775807) :
    Calls Try.prog 108 #[.int .i64 r] w fun e w' => ∃ A l c, e = .returned (.agg #[.slice A l c]) ∧ Fresh OBB w w' (.slice A l c) (newDb r) := by
  have hmk : ∀ W : World, (Instr.makeSlice 22 (.int .i64 24) (.int .i64 24)).run Try.prog W = .ok (.slice (some ⟨W.heap.size, 0, none⟩) 24 24) (W.alloc (.cells (madeCells #[.int .u8 0] 24) 5)) := fun W => by
    simpa using run_mk elB .i64 .i64 24 (by omega) (by omega) W
  by_cases h64 : 0 ≤ r ∧ r ≤ 64
  · obtain ⟨n, rfl⟩ := Int.eq_ofNat_of_zero_le h64.1
    have hn : n ≤ 64 := by omega
    have e0 : newDb (n : Int) = List.replicate n zcell := by unfold newDb; rw [if_pos h64, Int.toNat_natCast]
    rw [e0]
    clear e0 hr hr' h64
    have z24 : List.replicate 24 (0 : UInt8) = zcell := rfl
    have Z := Lib.hid z24
    clear z24
    go_enter Try.func108, Try.ntmps108
    go_wp2_with (go_at_call 91; refine (implIn_t _ _ _ _ (by omega) (by omega)).mono ?_; rintro e w' ⟨rfl, rfl⟩)
    go_loopw [8] (fun i wr => ∃ (k : Nat) (v : Value), k ≤ n ∧ i = .int .i64 k ∧ Hid (NRow 22 (Own 5 FB) (w.heap.size + 2) wr v k (List.replicate k zcell) []) ∧ Hid (Box wr w.heap.size 31 #[.slice none 0 0]) ∧ Hid (Box wr (w.heap.size + 1) 31 #[v]) ∧ Below w.heap.size w wr) (fun i _ => n - (intOf i).toNat)
    case atStart => exact ⟨0, _, Nat.zero_le _, rfl, Lib.hid (NRow_nil _), Lib.hid ((Box.new _ _ _).alloc _), Lib.hid (by have := Box.new (w.alloc (.cells #[.slice none 0 0] 31)) 31 #[.slice none 0 0]; simpa using this), (below_alloc _ _).alloc (by simp) _⟩
    case round =>
      obtain ⟨k, v, hk, rfl, hrow, hb0, hb1, hb⟩ := hrel
      by_cases hlt : k < n
      · obtain ⟨cells, F, k1, k2, k3, k4⟩ := hrow.out.open_
        have c1 : wr.cell? ⟨w.heap.size + 1, 0, none⟩ = some v := hb1.out.cell 0
        have f1 := hb1.out.frozen 0
        have K := Lib.hid (And.intro k2 (And.intro k3 k4))
        have hs := hb1.out.lt
        clear k2 k3 k4
        have HOWN : (((wr.alloc (.cells (madeCells #[.int .u8 0] 24) 5)).alloc (.cells #[.slice (some ⟨wr.heap.size, 0, none⟩) 24 24] 22)).drew).ownsRow 0 22 1 v k cells := (k1.alloc _).alloc _
        have HSRC : Src (((wr.alloc (.cells (madeCells #[.int .u8 0] 24) 5)).alloc (.cells #[.slice (some ⟨wr.heap.size, 0, none⟩) 24 24] 22)).drew) (some ⟨wr.heap.size + 1, 0, none⟩) 1 [.slice (some ⟨wr.heap.size, 0, none⟩) 24 24] := by
          have := Src_one (wr.alloc (.cells (madeCells #[.int .u8 0] 24) 5)) (.slice (some ⟨wr.heap.size, 0, none⟩) 24 24) 22
          rw [World.size_alloc] at this
          exact this
        have BX : Hid (Box (((wr.alloc (.cells (madeCells #[.int .u8 0] 24) 5)).alloc (.cells #[.slice (some ⟨wr.heap.size, 0, none⟩) 24 24] 22)).drew) (w.heap.size + 1) 31 #[v]) := (hb1.out.alloc _).alloc _
        have cL1 : (wr.alloc (.cells (madeCells #[.int .u8 0] 24) 5)).cell? ⟨w.heap.size + 1, 0, none⟩ = some v := (hb1.out.alloc _).cell 0
        have cL2 : ((wr.alloc (.cells (madeCells #[.int .u8 0] 24) 5)).alloc (.cells #[.slice (some ⟨wr.heap.size, 0, none⟩) 24 24] 22)).cell? ⟨w.heap.size + 1, 0, none⟩ = some v := ((hb1.out.alloc _).alloc _).cell 0
        have BX0 : Hid (Box (((wr.alloc (.cells (madeCells #[.int .u8 0] 24) 5)).alloc (.cells #[.slice (some ⟨wr.heap.size, 0, none⟩) 24 24] 22)).drew) w.heap.size 31 #[.slice none 0 0]) := (hb0.out.alloc _).alloc _
        have FU : Hid (Fresh (Own 5 FB) wr (wr.alloc (.cells (madeCells #[.int .u8 0] 24) 5)) (.slice (some ⟨wr.heap.size, 0, none⟩) 24 24) zcell) := Lib.hid (by have := fresh_made wr 24 (by simp [maxLen]); rw [Z.out] at this; exact this)
        have kv : v.ownBlock ≠ some (w.heap.size + 1) := fun e => by have := K.out.2.2 (w.heap.size + 1) (by rw [e]; simp); omega
        go_wp2_with fail
        go_region_law (first | (refine step_app elBB (by rfl) _ _ (by rfl) v k cells (by rfl) HOWN _ 1 1 [.slice (some ⟨wr.heap.size, 0, none⟩) 24 24] (by rfl) HSRC (one_single _ rfl) (by simp only [maxLen]; omega) (by omega) ?_; intro v' w2 hown hg hat; obtain ⟨A', l', c', rfl⟩ := own_shape hown; have bx2 : Box w2 (w.heap.size + 1) 31 #[v] := Box.grown (w := World.drew _) (BX.out) hg (Ne.symm kv); have c2 : w2.cell? ⟨w.heap.size + 1, 0, none⟩ = some v := bx2.cell 0; have f2 := bx2.frozen 0))
        all_goals
          have r0 := NRow.app (B := w.heap.size + 2) (Own_good FB_good) k1 K.out.1 K.out.2.1 K.out.2.2 FU.out (by omega) hown (grown_drew hg) hat
          have r1 : NRow 22 (Own 5 FB) (w.heap.size + 2) (w2.setCell ⟨w.heap.size + 1, 0, none⟩ (.slice A' l' c')) (.slice A' l' c') (k + 1) (List.replicate (k + 1) zcell) [] := by
            rw [List.replicate_succ']
            exact r0.setLow (Own_good FB_good) (Nat.lt_succ_self _) _
          have rb : Below w.heap.size w w2 := NRow.app_below (w1 := wr.alloc (.cells (madeCells #[.int .u8 0] 24) 5)) (hb.alloc (by omega) _) (by simp; omega) (fun b hb' => by have := K.out.2.2 b (List.mem_append_left _ (by simpa using hb')); omega) (grown_drew hg)
          have b0 : Box w2 w.heap.size 31 #[.slice none 0 0] := Box.grown (w := World.drew _) BX0.out hg (fun e => by have := K.out.2.2 w.heap.size (by rw [← e]; simp); omega)
          have R1 := Lib.hid r1
          have B0 := Lib.hid (Box.far b0 (p := ⟨w.heap.size + 1, 0, none⟩) (by simp) (.slice A' l' c'))
          have B1 := Lib.hid (bx2.set_ 0 (.slice A' l' c'))
          have RB := Lib.hid (rb.setCell (p := ⟨w.heap.size + 1, 0, none⟩) (by simp) (.slice A' l' c'))
          clear r0 r1 rb b0 bx2 c2 f2 hown hg hat cL1 cL2 HOWN HSRC BX BX0 FU kv k1 K c1 f1
          go_wp2
          go_roundw
          case rel => exact ⟨k + 1, _, by omega, by go_num, R1, B0, B1, RB.out⟩
          case measure => simp [intOf]; omega
      · have hkn : k = n := by omega
        subst hkn
        have c0 : wr.cell? ⟨w.heap.size, 0, none⟩ = some (.slice none 0 0) := hb0.out.cell 0
        have f0 := hb0.out.frozen 0
        obtain ⟨A', l', c', hv⟩ : ∃ A' l' c', v = .slice A' l' c' := by
          rcases hrow.out.form with ⟨h, _⟩ | ⟨g, cap, h, _⟩
          · exact ⟨_, _, _, h⟩
          · exact ⟨_, _, _, h⟩
        rw [hv] at hb1 hrow
        have c1 : wr.cell? ⟨w.heap.size + 1, 0, none⟩ = some (.slice A' l' c') := hb1.out.cell 0
        have hl := hb1.out.lt
        have hrow2 := hrow.out.setLow (Own_good FB_good) (p := ⟨w.heap.size, 0, none⟩) (by simp) (.slice A' l' c')
        have F := Lib.hid (hrow2.fresh_ (hb.setCell (p := ⟨w.heap.size, 0, none⟩) (Nat.le_refl _) _) (by omega))
        have cr := (hb0.out.set_ 0 (.slice A' l' c')).cell 0
        clear hv hrow hrow2 hb0 hb1
        go_wp2
        refine bodyPost_ret (v := .agg #[.slice A' l' c']) (by simp [results, Try.results108, go_sem, cr]) rfl ⟨_, _, _, rfl, F.out⟩
  · have e0 : newDb r = [] := by unfold newDb; rw [if_neg h64]
    rw [e0]
    have F : Fresh OBB w ((w.alloc (.cells #[.slice none 0 0] 31)).alloc (.cells #[.slice none 0 0] 31)) (.slice none 0 0) [] := (NRow_nil (B := w.heap.size) _).fresh_ (by (repeat (first | exact Below.refl _ _ | refine Below.alloc ?_ (by simp; try omega) _ | refine Below.setCell ?_ (by simp; try omega) _))) (Nat.le_refl _)
    have HF := Lib.hid F
    clear F e0
    by_cases hneg : r < 0
    all_goals
      go_enter Try.func108, Try.ntmps108
      go_wp2
      refine bodyPost_ret (v := .agg #[.slice none 0 0]) (by simp [results, Try.results108, go_sem]) rfl ⟨_, _, _, rfl, HF.out⟩
end Go.Proofs.Ytokhogdocaeelaa
