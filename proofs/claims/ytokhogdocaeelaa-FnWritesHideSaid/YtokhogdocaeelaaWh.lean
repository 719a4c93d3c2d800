/- What a region that makes boxes and rows in any order leaves. Plain theorems about worlds. -/
import Derived.Test.YtokhogdocaeelaaJwP
import Derived.Test.YtokhogdocaeelaaElR
import Derived.Test.YtokhogdocaeelaaShallow
namespace Go.Proofs.Ytokhogdocaeelaa
set_option linter.unusedVariables false
open Go.RowKit

/-- Behind the region: the box at g holds a database that reads as U. -/
def CutW (W0 : World) (U : Db) (p ok : Value) (wx : World) : Prop := ∃ g A l c, p = .pointer (some ⟨g, 0, none⟩) ∧ ok = .bool true ∧ Box wx g 31 #[.slice A l c] ∧ Rd (Rd RB) wx (.slice A l c) U ∧ Below W0.heap.size W0 wx
theorem bel1 (W : World) (a : Obj) : Below W.heap.size W (W.alloc a).drew := (below_alloc W a).drew
theorem bel2 (W : World) (a b : Obj) : Below W.heap.size W ((W.alloc a).alloc b).drew := ((below_alloc W a).alloc (by simp) b).drew
theorem bel3 (W : World) (a b c : Obj) : Below W.heap.size W (((W.alloc a).alloc b).alloc c).drew := (((below_alloc W a).alloc (by simp) b).alloc (by simp; omega) c).drew
theorem bx10 (W : World) (cs : Array Value) (T : TypeId) : Box (W.alloc (.cells cs T)).drew W.heap.size T cs := Box.new W T cs
theorem bx20 (W : World) (cs : Array Value) (T : TypeId) (b : Obj) : Box ((W.alloc (.cells cs T)).alloc b).drew W.heap.size T cs := (Box.new W T cs).alloc b
theorem bx21 (W : World) (cs : Array Value) (T : TypeId) (a : Obj) : Box ((W.alloc a).alloc (.cells cs T)).drew (W.heap.size + 1) T cs := by
  have := Box.new (W.alloc a) T cs
  rw [World.size_alloc] at this
  exact this
theorem bx30 (W : World) (cs : Array Value) (T : TypeId) (b c : Obj) : Box (((W.alloc (.cells cs T)).alloc b).alloc c).drew W.heap.size T cs := ((Box.new W T cs).alloc b).alloc c
theorem bx31 (W : World) (cs : Array Value) (T : TypeId) (a c : Obj) : Box (((W.alloc a).alloc (.cells cs T)).alloc c).drew (W.heap.size + 1) T cs := (bx21 W cs T a).alloc c
theorem bx32 (W : World) (cs : Array Value) (T : TypeId) (a b : Obj) : Box (((W.alloc a).alloc b).alloc (.cells cs T)).drew (W.heap.size + 2) T cs := by
  have := Box.new ((W.alloc a).alloc b) T cs
  rw [World.size_alloc, World.size_alloc] at this
  exact this
theorem own_box {W : World} {g : Nat} {T : TypeId} (h : Box W g T #[]) : W.ownsRow 0 T 1 (.slice (some ⟨g, 0, none⟩) 0 0) 0 [] :=
  ⟨rfl, .inr ⟨g, 0, #[], rfl, Nat.zero_le _, h, Nat.le_refl _, by simp [maxLen], by simp, by simp⟩⟩
theorem src_box {W : World} {g : Nat} {T : TypeId} {u : Value} (h : Box W g T #[u]) : Src W (some ⟨g, 0, none⟩) 1 [u] :=
  ⟨rfl, fun _ => ⟨g, 0, rfl, fun j v hv => by
    cases j with
    | zero => simp at hv; subst hv; exact h.cell 0
    | succ j => simp at hv⟩⟩
theorem grow_bel {W0 W w' : World} {row : Option Nat} (hg : W.grownBy w' row) (hb : Below W0.heap.size W0 W) (hr : ∀ k, row = some k → W0.heap.size ≤ k) : Below W0.heap.size W0 w' := hb.grown hg hb.size hr
theorem grow_low {W0 W : World} {v v' : Value} (hat : v'.ownBlock = v.ownBlock ∨ v'.ownBlock = some W.heap.size) (hb : Below W0.heap.size W0 W) (hr : ∀ k, v.ownBlock = some k → W0.heap.size ≤ k) : ∀ k, v'.ownBlock = some k → W0.heap.size ≤ k := fun k hk => by
  rcases hat with e | e
  · exact hr k (e ▸ hk)
  · rw [e] at hk
    injection hk with hk
    have := hb.size
    omega
theorem grow_ne {W : World} {v v' : Value} {g : Nat} {T : TypeId} {cs : Array Value} (hat : v'.ownBlock = v.ownBlock ∨ v'.ownBlock = some W.heap.size) (hbx : Box W g T cs) (hne : some g ≠ v.ownBlock) : some g ≠ v'.ownBlock := fun h => by
  have := hbx.lt
  rcases hat with e | e
  · exact hne (h.trans e)
  · rw [e] at h
    injection h with h
    omega
theorem grow_box {W w' : World} {row : Option Nat} {g : Nat} {T : TypeId} {cs : Array Value} (hg : W.grownBy w' row) (hbx : Box W g T cs) (hne : some g ≠ row) : Box w' g T cs := Box.grown hbx hg hne
theorem own_ne {w : World} {E : TypeId} {v : Value} {n : Nat} {cells : List Value} (h : w.ownsRow 0 E 1 v n cells) {g : Nat} (hg : w.heap.size ≤ g) : some g ≠ v.ownBlock := fun e => by
  have := (h.lt g e.symm).2
  omega
theorem bn1 (w : World) (cs : Array Value) (T : TypeId) : Box (w.alloc (.cells cs T)) w.heap.size T cs := Box.new w T cs
theorem bn20 (w : World) (cs : Array Value) (T : TypeId) (b : Obj) : Box ((w.alloc (.cells cs T)).alloc b) w.heap.size T cs := (Box.new w T cs).alloc b
theorem bn21 (w : World) (cs : Array Value) (T : TypeId) (a : Obj) : Box ((w.alloc a).alloc (.cells cs T)) (w.heap.size + 1) T cs := by
  have := Box.new (w.alloc a) T cs
  rw [World.size_alloc] at this
  exact this
theorem keep_set {W0 w : World} {g : Nat} {T : TypeId} {cs : Array Value} {p : Addr} {v : Value} (hS : ∀ W, Below W0.heap.size W0 W → W.cell? p = some v) (hb : Below W0.heap.size W0 w) (hbx : Box w g T cs) (hg : W0.heap.size ≤ g) (u : Value) : (w.setCell ⟨g, 0, none⟩ u).cell? p = some v := hS _ (hb.setCell hg u)
theorem fin_new {W0 Wc w : World} {U : Db} {A : Option Addr} {l c : Nat} (F : Fresh OBB Wc w (.slice A l c) U) (hb : Below W0.heap.size W0 w) : CutW W0 U (.pointer (some ⟨w.heap.size, 0, none⟩)) (.bool true) (w.alloc (.cells #[.slice A l c] 31)) :=
  ⟨_, A, l, c, rfl, rfl, Box.new w _ _, Rd_reads (Rd_reads RB_reads) _ _ _ _ (rd_db (F.iv OBB_good)) (below_alloc w _), hb.alloc hb.size _⟩
theorem fin_set {W0 Wc w : World} {U : Db} {A : Option Addr} {l c g : Nat} {u : Value} (F : Fresh OBB Wc w (.slice A l c) U) (hb : Below W0.heap.size W0 w) (hbx : Box w g 31 #[u]) (hlt : g < Wc.heap.size) (hg : W0.heap.size ≤ g) : CutW W0 U (.pointer (some ⟨g, 0, none⟩)) (.bool true) (w.setCell ⟨g, 0, none⟩ (.slice A l c)) := by
  obtain ⟨Fl, f1, f2, f3, f4⟩ := F
  exact ⟨g, A, l, c, rfl, rfl, hbx.set_ 0 _, own_rdBB (OBB_good.stab f1 (fun q hq => Below.heap_setCell _ _ _ _ (by have := f3 q hq; show q ≠ g; omega))), hb.setCell hg _⟩
end Go.Proofs.Ytokhogdocaeelaa
