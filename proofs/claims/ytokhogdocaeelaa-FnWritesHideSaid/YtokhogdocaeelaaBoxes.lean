/- Boxes of structs: a call's own boxes; a row in a field of a box that grows by an append. Plain theorems about worlds. -/
import Derived.Test.YtokhogdocaeelaaNest
namespace Go.Proofs.Ytokhogdocaeelaa
set_option linter.unusedVariables false
open Go.RowKit

theorem boxes1 (w : World) (t0 : TypeId) (c0 : Array Value) : Box (w.alloc (.cells c0 t0)) w.heap.size t0 c0 ∧ Below w.heap.size w (w.alloc (.cells c0 t0)) ∧ w.heap.size + 1 ≤ (w.alloc (.cells c0 t0)).heap.size :=
  ⟨Box.new w t0 c0, below_alloc w _, by simp⟩
theorem boxes2 (w : World) (t0 : TypeId) (c0 : Array Value) (t1 : TypeId) (c1 : Array Value) :
    Box ((w.alloc (.cells c0 t0)).alloc (.cells c1 t1)) w.heap.size t0 c0 ∧ Box ((w.alloc (.cells c0 t0)).alloc (.cells c1 t1)) (w.heap.size + 1) t1 c1 ∧ Below w.heap.size w ((w.alloc (.cells c0 t0)).alloc (.cells c1 t1)) ∧ w.heap.size + 2 ≤ ((w.alloc (.cells c0 t0)).alloc (.cells c1 t1)).heap.size := by
  obtain ⟨a, T, _⟩ := boxes1 w t0 c0
  have s : (w.alloc (.cells c0 t0)).heap.size = w.heap.size + 1 := by simp
  have b := Box.new (w.alloc (.cells c0 t0)) t1 c1
  rw [s] at b
  exact ⟨a.alloc _, b, T.alloc T.size _, by simp⟩
theorem boxes3 (w : World) (t0 : TypeId) (c0 : Array Value) (t1 : TypeId) (c1 : Array Value) (t2 : TypeId) (c2 : Array Value) :
    Box (((w.alloc (.cells c0 t0)).alloc (.cells c1 t1)).alloc (.cells c2 t2)) w.heap.size t0 c0 ∧ Box (((w.alloc (.cells c0 t0)).alloc (.cells c1 t1)).alloc (.cells c2 t2)) (w.heap.size + 1) t1 c1 ∧ Box (((w.alloc (.cells c0 t0)).alloc (.cells c1 t1)).alloc (.cells c2 t2)) (w.heap.size + 2) t2 c2 ∧
      Below w.heap.size w (((w.alloc (.cells c0 t0)).alloc (.cells c1 t1)).alloc (.cells c2 t2)) ∧ w.heap.size + 3 ≤ (((w.alloc (.cells c0 t0)).alloc (.cells c1 t1)).alloc (.cells c2 t2)).heap.size := by
  obtain ⟨a, b, T, _⟩ := boxes2 w t0 c0 t1 c1
  have s : ((w.alloc (.cells c0 t0)).alloc (.cells c1 t1)).heap.size = w.heap.size + 2 := by simp
  have c := Box.new ((w.alloc (.cells c0 t0)).alloc (.cells c1 t1)) t2 c2
  rw [s] at c
  exact ⟨a.alloc _, b.alloc _, c, T.alloc T.size _, by simp⟩
/-- A result struct handed back through its box. -/
theorem Fresh.boxed {α : Type} {R : FRel α} (hR : Good R) {w w1 w2 : World} {v : Value} {x : α} (F : Fresh R w1 w2 v x) (T : Below w.heap.size w w1) {p : Addr} (h1 : w.heap.size ≤ p.block) (h2 : p.block < w1.heap.size) (u : Value) : Fresh R w (w2.setCell p u) v x :=
  FreshG.fresh (FreshG.set hR (F.g T) h1 h2 u) T.size
theorem NRow.boxed {α : Type} {E : TypeId} {R : FRel α} {B n : Nat} {xs : List α} (hR : Good R) {w w1 : World} {v : Value} (h : NRow E R B w1 v n xs []) (T : Below w.heap.size w w1) (hB : w.heap.size ≤ B) {p : Addr} (h1 : w.heap.size ≤ p.block) (h2 : p.block < B) (u : Value) : Fresh (Own E R) w (w1.setCell p u) v xs :=
  (h.setLow hR h2 u).fresh_ (T.setCell h1 _) hB

/-- The append onto a row that lies in box g's first field, and the store of the longer row: u was made between wr and w3. -/
theorem box_append {α : Type} {E t : TypeId} {R : FRel α} (hR : Good R) {wr w3 w4 : World} {o : Obj} {g k : Nat} {vo v4 u : Value} {xs : List α} {x : α} {cells : List Value} {F : List Nat}
    (k1 : wr.ownsRow 0 E 1 vo k cells) (k2 : AllR R wr cells xs F) (k3 : (vo.ownBlock.toList ++ F).Nodup) (k4 : ∀ b, b ∈ vo.ownBlock.toList ++ F → g + 1 ≤ b) (hu : Fresh R wr w3 u x) (hB : g + 1 ≤ wr.heap.size)
    (hbox : Box w3 g t #[vo]) (hown : w4.ownsRow 0 E 1 v4 (k + 1) (cells ++ [u])) (hg : (w3.alloc o).grownBy w4 vo.ownBlock) (hat : v4.ownBlock = vo.ownBlock ∨ v4.ownBlock = some (w3.alloc o).heap.size) :
    (w4.cell? ⟨g, 0, none⟩ = some vo ∧ w4.frozen? ⟨g, 0, none⟩ = false) ∧ NRow E R (g + 1) (w4.setCell ⟨g, 0, none⟩ v4) v4 (k + 1) (xs ++ [x]) [] ∧ Box (w4.setCell ⟨g, 0, none⟩ v4) g t #[v4] ∧
      (∀ g' t' cs', g' < g → Box w3 g' t' cs' → Box (w4.setCell ⟨g, 0, none⟩ v4) g' t' cs') ∧ (∀ B0 W0, B0 ≤ g → Below B0 W0 w3 → Below B0 W0 (w4.setCell ⟨g, 0, none⟩ v4)) := by
  have kno : ∀ q, q ≤ g → some q ≠ vo.ownBlock := fun q hq e => by
    have := k4 q (List.mem_append_left _ (by rw [← e]; simp))
    omega
  have b4 : Box w4 g t #[vo] := Box.grown (hbox.alloc o) hg (kno g (Nat.le_refl _))
  refine ⟨⟨b4.cell 0, b4.frozen 0⟩, (NRow.app hR k1 k2 k3 k4 hu hB hown hg hat).setLow hR (Nat.lt_succ_self g) v4, b4.set_ 0 v4, fun g' t' cs' h' hb' => ?_, fun B0 W0 h0 hb0 => ?_⟩
  · exact (Box.grown (hb'.alloc o) hg (kno g' (by omega))).far (by show g' ≠ g; omega) v4
  · have hs := hu.below.size
    refine Below.setCell (NRow.app_below (w1 := w3) hb0 (by omega) (fun q hq => ?_) hg) (by show B0 ≤ g; omega) v4
    have := k4 q (List.mem_append_left _ (by rw [hq]; simp))
    omega
end Go.Proofs.Ytokhogdocaeelaa
