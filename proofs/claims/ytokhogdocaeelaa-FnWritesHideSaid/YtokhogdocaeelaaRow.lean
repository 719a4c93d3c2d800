/- A row of the call's own in a loop that appends. -/
import Derived.Test.YtokhogdocaeelaaBase
namespace Go.Proofs.Ytokhogdocaeelaa
set_option linter.unusedVariables false
open Go.RowKit

/-- One step of an append in a loop: the row of the call's own from block B on. -/
def Row (E : TypeId) (B : Nat) (w : World) (v : Value) (n : Nat) (cells : List Value) : Prop := w.ownsRow 0 E 1 v n cells ∧ ∀ b, v.ownBlock = some b → B ≤ b

theorem Row.app {E : TypeId} {B : Nat} {a w w' : World} {o : Obj} {v v' : Value} {n m : Nat} {cells news : List Value} (h : Row E B w v n cells) (hb : Below B a w) (hB : B ≤ w.heap.size)
    (h1 : w'.ownsRow 0 E 1 v' (n + m) (cells ++ news)) (hg : (w.alloc o).grownBy w' v.ownBlock) (hat : v'.ownBlock = v.ownBlock ∨ v'.ownBlock = some (w.alloc o).heap.size) :
    Row E B w' v' (n + m) (cells ++ news) ∧ Below B a w' := by
  have := app_below (hb.alloc hB o) (by simp; omega) h.2 hg hat
  exact ⟨⟨h1, this.2⟩, this.1⟩

theorem Row.app0 {E : TypeId} {B : Nat} {a w w' : World} {v v' : Value} {n m : Nat} {cells news : List Value} (h : Row E B w v n cells) (hb : Below B a w) (hB : B ≤ w.heap.size)
    (h1 : w'.ownsRow 0 E 1 v' (n + m) (cells ++ news)) (hg : w.grownBy w' v.ownBlock) (hat : v'.ownBlock = v.ownBlock ∨ v'.ownBlock = some w.heap.size) :
    Row E B w' v' (n + m) (cells ++ news) ∧ Below B a w' := by
  have := app_below hb hB h.2 hg hat
  exact ⟨⟨h1, this.2⟩, this.1⟩

theorem Row_lit {E : TypeId} {B : Nat} (w : World) (cs : Array Value) (hB : B ≤ w.heap.size) (h : cs.size ≤ maxLen) : Row E B (w.alloc (.cells cs E)) (.slice (some ⟨w.heap.size, 0, none⟩) cs.size cs.size) cs.size cs.toList :=
  ⟨World.ownsRow_lit w cs cs.size (Nat.zero_le _) h (by simp), fun b hb => by simp [Value.ownBlock] at hb; omega⟩

theorem Row.freshB {E : TypeId} {w w' : World} {v : Value} {n : Nat} {cells : List Value} {xs : List UInt8} (h : Row E w.heap.size w' v n cells) (hb : Below w.heap.size w w') (hc : cells = xs.map fun x => Value.int .u8 (x.toNat : Int)) : Fresh (Own E FB) w w' v xs :=
  fresh_flatB h.1 hc h.2 hb
theorem Row.freshI {E : TypeId} {w w' : World} {v : Value} {n : Nat} {cells : List Value} {xs : List Int} (h : Row E w.heap.size w' v n cells) (hb : Below w.heap.size w w') (hc : cells = xs.map fun x => Value.int .i64 x) : Fresh (Own E FI) w w' v xs :=
  fresh_flatI h.1 hc h.2 hb

end Go.Proofs.Ytokhogdocaeelaa
