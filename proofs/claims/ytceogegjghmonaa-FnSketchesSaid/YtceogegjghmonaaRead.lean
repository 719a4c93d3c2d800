/- ReadRow of both sides; copies of databases. -/
import Derived.Test.YtceogegjghmonaaEqDb
import Derived.Test.YtceogegjghmonaaXor
namespace Go.Proofs.Ytceogegjghmonaa
set_option linter.unusedVariables false
open Go.RowKit

theorem Fresh.lower {α : Type} {R : FRel α} {w w1 w' : World} {v : Value} {x : α} (h : Fresh R w1 w' v x) (hb : Below w.heap.size w w1) : Fresh R w w' v x := by
  obtain ⟨F, a, b, c, d⟩ := h
  exact ⟨F, a, b, fun q hq => Nat.le_trans hb.size (c q hq), hb.trans (d.mono hb.size)⟩

/-- A row of a database, none outside. -/
def rowOf (xs : List (List UInt8)) (i : Int) : List UInt8 := if 0 ≤ i ∧ i < (xs.length : Nat) then xs.getD i.toNat [] else []
def rowIn (xs : List (List UInt8)) (i : Int) : Bool := decide (0 ≤ i ∧ i < (xs.length : Nat))
theorem rowOf_at (xs : List (List UInt8)) (k : Nat) (x : List UInt8) (h : xs[k]? = some x) : rowOf xs (k : Int) = x := by
  obtain ⟨hk, he⟩ := List.getElem?_eq_some_iff.1 h
  unfold rowOf
  rw [if_pos ⟨by omega, by omega⟩]
  simp [List.getD, h]
theorem rowOf_out (xs : List (List UInt8)) (i : Int) (h : ¬ (0 ≤ i ∧ i < (xs.length : Nat))) : rowOf xs i = [] := by unfold rowOf; rw [if_neg h]
theorem fresh_nilB (w w' : World) (hb : Below w.heap.size w w') : Fresh (Own 5 FB) w w' (.slice none 0 0) ([] : List UInt8) := fresh_flatB (World.ownsRow_nil _ _ _ _) rfl (by simp [Value.ownBlock]) hb

set_option maxHeartbeats 1000000 in
theorem implReadRow_c (v : Value) (xs : List (List UInt8)) (i : Int) (ok : Bool) (w : World) (h : Rd (Rd RB) w v xs) (hok : Hid (rowIn xs i = ok)) (hi : -9223372036854775808 ≤ i) (hi' : i ≤ 9223372036854775807) (hn : tot xs ≤ 1048576) :
    Calls Try.prog 33 #[.agg #[v], .int .i64 i] w fun e w' => ∃ v', e = .returned (.tuple #[v', .bool ok]) ∧ Fresh (Own 5 FB) w w' v' (rowOf xs i) := by
  obtain ⟨A, n, c, rfl, h⟩ := h
  obtain rfl := h.1
  have hnc := h.2.1
  have hcm := h.2.2.1
  unfold maxLen at hcm
  have b0 := below_alloc w (.cells #[.slice A xs.length c] 26)
  have hls := len_le_tot xs
  have hsl := sumL_le xs
  by_cases hin : 0 ≤ i ∧ i < (xs.length : Nat)
  · obtain ⟨k, rfl⟩ := Int.eq_ofNat_of_zero_le hin.1
    have hk : k < xs.length := by omega
    obtain ⟨b, off, y, u, rfl, hbb, hx, g1, hr⟩ := h.at_ hk
    have g1' := (b0.cell (p := ⟨b, off + k, none⟩) hbb).trans g1
    have r1 := Rd_reads RB_reads _ _ _ _ hr b0
    have hyl := get_le_sumL xs k y hx
    rw [rowOf_at xs k y hx]
    have e : ok = true := by rw [← hok.out]; unfold rowIn; rw [decide_eq_true hin]
    subst e
    clear hok hx g1 hr h hin
    go_enter Try.func33, Try.ntmps33
    go_wp2_with (go_at_call 100; refine (implIn_t _ _ _ _ (by omega) (by omega)).mono ?_; rintro e w' ⟨rfl, rfl⟩)
    refine (CloneB_c _ y _ r1 (by omega)).mono ?_
    rintro e w1 ⟨v1, rfl, F⟩
    have G := Lib.hid (F.lower b0)
    clear F
    go_wp2
    refine bodyPost_ret (v := .tuple #[v1, .bool true]) (by simp [results, Try.results33, go_sem]) rfl ⟨_, rfl, G.out⟩
  · rw [rowOf_out xs i hin]
    have e : ok = false := by rw [← hok.out]; unfold rowIn; rw [decide_eq_false hin]
    subst e
    have HIN := Lib.hid hin
    clear hok h hin
    go_enter Try.func33, Try.ntmps33
    go_wp2_with (go_at_call 100; refine (implIn_f _ _ _ _ (fun hc => HIN.out ⟨hc.1, by omega⟩)).mono ?_; rintro e w' ⟨rfl, rfl⟩)
    refine bodyPost_ret (v := .tuple #[.slice none 0 0, .bool false]) (by simp [results, Try.results33, go_sem]) rfl ⟨_, rfl, fresh_nilB _ _ b0⟩
end Go.Proofs.Ytceogegjghmonaa
