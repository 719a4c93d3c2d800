/- ReadRow of both sides; copies of databases. -/
import Derived.Test.YtdnifmcipbnncaaEqDb
import Derived.Test.YtdnifmcipbnncaaXor
namespace Go.Proofs.Ytdnifmcipbnncaa
set_option linter.unusedVariables false
open Go.RowKit

theorem Fresh.lower {α : Type} {R : FRel α} {w w1 w' : World} {v : Value} {x : α} (h : Fresh R w1 w' v x) (hb : Below w.heap.size w w1) : Fresh R w w' v x := by
  obtain ⟨F, a, b, c, d⟩ := h
  exact ⟨F, a, b, fun q hq => Nat.le_trans hb.size (c q hq), hb.trans (d.mono hb.size)⟩

/-- A row of a database, none outside. -/
def rowOf (xs : List (List UInt8)) (i : Int) : List UInt8 := if 0 ≤ i ∧ i < (xs.length : Nat) then xs.getD i.toNat [] else []
def rowIn (xs : List (List UInt8)) (i : Int) : Bool := decide (0 ≤ i ∧ i < (xs.length : Nat))
theorem rowOf_at (xs : List (List UInt8)) (k : Nat) (x : List UInt8) (h : xs[k]? = some x) : rowOf xs (k : Int) = x := by
  obtain ⟨hk, he⟩ := List.getElem?_eq_some_iff.1 h
  unfold rowOf
  rw [if_pos ⟨by omega, by omega⟩]
  simp [List.getD, h]
theorem rowOf_out (xs : List (List UInt8)) (i : Int) (h : ¬ (0 ≤ i ∧ i < (xs.length : Nat))) : rowOf xs i = [] := by unfold rowOf; rw [if_neg h]
theorem fresh_nilB (w w' : World) (hb : Below w.heap.size w w') : Fresh (Own 5 FB) w w' (.slice none 0 0) ([] : List UInt8) := fresh_flatB (World.ownsRow_nil _ _ _ _) rfl (by simp [Value.ownBlock]) hb

set_option maxHeartbeats 1000000 in
theorem implReadRow_c (v : Value) (xs : List (List UInt8)) (i : Int) (ok : Bool) (w : World) (h : Rd (Rd RB) w v xs) (hok : Hid (rowIn xs i = ok)) (hi : -9223372036854775808 ≤ i) (hi' : i ≤ 9223372036854775807) (hn : tot xs ≤ 1048576) :
    Calls Try.prog 33 #[.agg #[v], .int .i64 i] w fun e w' => ∃ v', e = .returned (.tuple #[v', .bool ok]) ∧ Fresh (Own 5 FB) w w' v' (rowOf xs i) := by
  obtain ⟨A, n, c, rfl, h⟩ := h
  obtain rfl := h.1
  have hnc := h.2.1
  have hcm := h.2.2.1
  unfold maxLen at hcm
  have b0 := below_alloc w (.cells #[.slice A xs.length c] 27)
  have hls := len_le_tot xs
  have hsl := sumL_le xs
  by_cases hin : 0 ≤ i ∧ i < (xs.length : Nat)
  · obtain ⟨k, rfl⟩ := Int.eq_ofNat_of_zero_le hin.1
    have hk : k < xs.length := by omega
    obtain ⟨b, off, y, u, rfl, hbb, hx, g1, hr⟩ := h.at_ hk
    have g1' := (b0.cell (p := ⟨b, off + k, none⟩) hbb).trans g1
    have r1 := Rd_reads RB_reads _ _ _ _ hr b0
    have hyl := get_le_sumL xs k y hx
    rw [rowOf_at xs k y hx]
    have e : ok = true := by rw [← hok.out]; unfold rowIn; rw [decide_eq_true hin]
    subst e
    clear hok hx g1 hr h hin
    go_enter Try.func33, Try.ntmps33
    go_wp2_with (go_at_call 61; refine (implIn_t _ _ _ _ (by omega) (by omega)).mono ?_; rintro e w' ⟨rfl, rfl⟩)
    refine (CloneB_c _ y _ r1 (by omega)).mono ?_
    rintro e w1 ⟨v1, rfl, F⟩
    have G := Lib.hid (F.lower b0)
    clear F
    go_wp2
    refine bodyPost_ret (v := .tuple #[v1, .bool true]) (by simp [results, Try.results33, go_sem]) rfl ⟨_, rfl, G.out⟩
  · rw [rowOf_out xs i hin]
    have e : ok = false := by rw [← hok.out]; unfold rowIn; rw [decide_eq_false hin]
    subst e
    have HIN := Lib.hid hin
    clear hok h hin
    go_enter Try.func33, Try.ntmps33
    go_wp2_with (go_at_call 61; refine (implIn_f _ _ _ _ (fun hc => HIN.out ⟨hc.1, by omega⟩)).mono ?_; rintro e w' ⟨rfl, rfl⟩)
    refine bodyPost_ret (v := .tuple #[.slice none 0 0, .bool false]) (by simp [results, Try.results33, go_sem]) rfl ⟨_, rfl, fresh_nilB _ _ b0⟩
set_option maxHeartbeats 1000000 in
theorem specReadRow_c (v : Value) (xs : List (List UInt8)) (i : Int) (ok : Bool) (w : World) (h : Rd (Rd RB) w v xs) (hok : Hid (rowIn xs i = ok)) (hi : -9223372036854775808 ≤ i) (hi' : i ≤ 9223372036854775807) (hn : tot xs ≤ 1048576) :
    Calls Try.prog 32 #[.agg #[v], .int .i64 i] w fun e w' => ∃ v', e = .returned (.tuple #[v', .bool ok]) ∧ Fresh (Own 5 FB) w w' v' (rowOf xs i) := by
  obtain ⟨A, n, c, rfl, h⟩ := h
  obtain rfl := h.1
  have hnc := h.2.1
  have hcm := h.2.2.1
  unfold maxLen at hcm
  have b0 := below_alloc w (.cells #[.slice A xs.length c] 27)
  have hls := len_le_tot xs
  have hsl := sumL_le xs
  by_cases hin : 0 ≤ i ∧ i < (xs.length : Nat)
  · obtain ⟨k, rfl⟩ := Int.eq_ofNat_of_zero_le hin.1
    have hk : k < xs.length := by omega
    obtain ⟨b, off, y, u, rfl, hbb, hx, g1, hr⟩ := h.at_ hk
    have g1' := (b0.cell (p := ⟨b, off + k, none⟩) hbb).trans g1
    have r1 := Rd_reads RB_reads _ _ _ _ hr b0
    obtain ⟨A1, n1, c1, rfl, h1⟩ := r1
    have hyl := get_le_sumL xs k y hx
    rw [rowOf_at xs k y hx]
    have e : ok = true := by rw [← hok.out]; unfold rowIn; rw [decide_eq_true hin]
    subst e
    have hn1 : n1 ≤ 1048576 := by have := h1.1; omega
    have H1 := Lib.hid h1
    have b2 := below_alloc (w.alloc (.cells #[.slice (some ⟨b, off, none⟩) xs.length c] 27)) (.cells #[] 5)
    clear hok hx g1 hr h hin h1
    have g2 := (b2.cell (p := ⟨b, off + k, none⟩) (Nat.lt_of_lt_of_le hbb b0.size)).trans g1'
    have HROW : Row 5 w.heap.size ((w.alloc (.cells #[.slice (some ⟨b, off, none⟩) xs.length c] 27)).alloc (.cells #[] 5)) (.slice (some ⟨w.heap.size + 1, 0, none⟩) 0 0) 0 [] := by
      have := Row_lit (E := 5) (B := w.heap.size) (w.alloc (.cells #[.slice (some ⟨b, off, none⟩) xs.length c] 27)) #[] (by simp) (by simp)
      rw [World.size_alloc] at this
      exact this
    have HB2 : Hid (Below w.heap.size w ((w.alloc (.cells #[.slice (some ⟨b, off, none⟩) xs.length c] 27)).alloc (.cells #[] 5))) := Lib.hid (b0.alloc (by simp) _)
    have HR := Lib.hid HROW
    clear HROW
    go_enter Try.func32, Try.ntmps32
    go_wp2_with (first | (go_at_call 58; refine (specIn_t _ _ _ _ (by omega) (by omega)).mono ?_; rintro e w' ⟨rfl, rfl⟩) | (at_builtin; refine wpList_app elB rfl (.tmp 14) (.tmp 19) rfl _ 0 [] rfl HR.out.1 A1 n1 c1 _ rfl (H1.out.srcB.alloc _) (one_mapB y) (by simp only [maxLen]; omega) (by omega) ?_; intro v' w1 hown hg hat))
    have r := HR.out.app0 HB2.out (by simp; omega) hown hg hat
    refine bodyPost_ret (v := .tuple #[v', .bool true]) (by simp [results, Try.results32, go_sem]) rfl ⟨_, rfl, r.1.freshB r.2 (by simp)⟩
  · rw [rowOf_out xs i hin]
    have e : ok = false := by rw [← hok.out]; unfold rowIn; rw [decide_eq_false hin]
    subst e
    have HIN := Lib.hid hin
    have b2 := below_alloc (w.alloc (.cells #[.slice A xs.length c] 27)) (.cells #[] 5)
    have FR : Hid (Fresh (Own 5 FB) w ((w.alloc (.cells #[.slice A xs.length c] 27)).alloc (.cells #[] 5)) (.slice (some ⟨(w.alloc (.cells #[.slice A xs.length c] 27)).heap.size, 0, none⟩) 0 0) ([] : List UInt8)) := Lib.hid ((fresh_flatB (Row_lit (E := 5) (B := (w.alloc (.cells #[.slice A xs.length c] 27)).heap.size) (w.alloc (.cells #[.slice A xs.length c] 27)) #[] (Nat.le_refl _) (by simp)).1 rfl (fun q hq => by simp [Value.ownBlock] at hq; simp; omega) b2).lower b0)
    clear hok h hin b2
    go_enter Try.func32, Try.ntmps32
    go_wp2_with (go_at_call 58; refine (specIn_f _ _ _ _ (fun hc => HIN.out ⟨hc.1, by omega⟩)).mono ?_; rintro e w' ⟨rfl, rfl⟩)
    simp only [World.size_alloc] at FR
    refine bodyPost_ret (v := .tuple #[.slice (some ⟨w.heap.size + 1, 0, none⟩) 0 0, .bool false]) (by simp [results, Try.results32, go_sem]) rfl ⟨_, rfl, FR.out⟩
end Go.Proofs.Ytdnifmcipbnncaa
