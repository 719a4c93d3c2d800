/- ReadRow of both sides; copies of databases. -/
import Derived.Test.YtokhogdocaeelaaEqDb
import Derived.Test.YtokhogdocaeelaaXor
namespace Go.Proofs.Ytokhogdocaeelaa
set_option linter.unusedVariables false
open Go.RowKit

theorem Fresh.lower {α : Type} {R : FRel α} {w w1 w' : World} {v : Value} {x : α} (h : Fresh R w1 w' v x) (hb : Below w.heap.size w w1) : Fresh R w w' v x := by
  obtain ⟨F, a, b, c, d⟩ := h
  exact ⟨F, a, b, fun q hq => Nat.le_trans hb.size (c q hq), hb.trans (d.mono hb.size)⟩

/-- A row of a database, none outside. -/
def rowOf (xs : List (List UInt8)) (i : Int) : List UInt8 := if 0 ≤ i ∧ i < (xs.length : Nat) then xs.getD i.toNat [] else []
def rowIn (xs : List (List UInt8)) (i : Int) : Bool := decide (0 ≤ i ∧ i < (xs.length : Nat))
theorem rowOf_at (xs : List (List UInt8)) (k : Nat) (x : List UInt8) (h : xs[k]? = some x) : rowOf xs (k : Int) = x := by
  obtain ⟨hk, he⟩ := List.getElem?_eq_some_iff.1 h
  unfold rowOf
  rw [if_pos ⟨by omega, by omega⟩]
  simp [List.getD, h]
theorem rowOf_out (xs : List (List UInt8)) (i : Int) (h : ¬ (0 ≤ i ∧ i < (xs.length : Nat))) : rowOf xs i = [] := by unfold rowOf; rw [if_neg h]
theorem fresh_nilB (w w' : World) (hb : Below w.heap.size w w') : Fresh (Own 5 FB) w w' (.slice none 0 0) ([] : List UInt8) := fresh_flatB (World.ownsRow_nil _ _ _ _) rfl (by simp [Value.ownBlock]) hb

end Go.Proofs.Ytokhogdocaeelaa
