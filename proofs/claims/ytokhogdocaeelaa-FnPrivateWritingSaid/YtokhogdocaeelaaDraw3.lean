/- The drawing functions: databases. -/
import Derived.Test.YtokhogdocaeelaaDraw2
import Derived.Test.YtokhogdocaeelaaDb
import Derived.Test.YtokhogdocaeelaaKeep
import Derived.Deep.RegionHeld3
namespace Go.Proofs.Ytokhogdocaeelaa
set_option linter.unusedVariables false
open Go.RowKit

theorem Cur.drew {t : TypeId} {w0 w : World} {V : Value} {g : Nat} (h : Cur t w0 V g w) : Cur t w0 V g w.drew := by
  obtain ⟨i, k, b, h0, h1, hw, hg⟩ := h
  exact ⟨i, k, b, h0, h1, hw.drew, hg⟩
theorem Cur.via {t : TypeId} {w0 w3 W : World} {V : Value} {g gd : Nat} (h : Cur t w0 V g w3) (hg : g < gd) (h1 : ∀ g' t' cs', g' < gd → Box w3 g' t' cs' → Box W g' t' cs') (h2 : ∀ B0 W0, B0 ≤ gd → Below B0 W0 w3 → Below B0 W0 W) : Cur t w0 V g W := by
  obtain ⟨i, k, b, i0, i1, hw, hge⟩ := h
  exact ⟨i, k, h1 _ _ _ hg b, i0, i1, h2 _ _ (by omega) hw, hge⟩
theorem Cur.far {t : TypeId} {w0 w : World} {V : Value} {g : Nat} (h : Cur t w0 V g w) {p : Addr} (hp : g ≠ p.block) (hp2 : w0.heap.size ≤ p.block) (u : Value) : Cur t w0 V g (w.setCell p u) := by
  obtain ⟨i, k, b, i0, i1, hw, hge⟩ := h
  exact ⟨i, k, b.far hp u, i0, i1, hw.setCell hp2 u, hge⟩
theorem Chg.low {g : Nat} {w w3 W : World} (h : Chg g (g + 1) w w3) (hb : Below w.heap.size w3 W) : Chg g (g + 1) w W :=
  ⟨hb.os.trans h.os, hb.tape.trans h.tape, hb.output.trans h.output, Nat.le_trans h.size hb.size, fun k hk hn => (hb.block k hk).trans (h.block k hk hn)⟩
theorem Chg.drew_ {lo hi : Nat} {a w : World} (h : Chg lo hi a w) : Chg lo hi a w.drew := ⟨h.os, h.tape, h.output, h.size, h.block⟩
theorem Box.chg {w w' : World} {k g : Nat} {t : TypeId} {cs : Array Value} (h : Box w k t cs) (hc : Chg g (g + 1) w w') (hk : k ≠ g) : Box w' k t cs := (hc.block k h.lt (fun q => hk (by omega))).trans h
/-- What was drawn, seen from a world in which the box alone has turned. -/
theorem Drew.open_ {α : Type} {R : FRel α} {g : Nat} {w w' : World} {v : Value} {x : α} (h : Drew R g w w' v x) : ∃ wm, Chg g (g + 1) w wm ∧ wm.heap.size = w.heap.size ∧ Fresh R wm w' v x := by
  obtain ⟨wm, hm, hf⟩ := h
  exact ⟨wm, hm.1, hm.2, hf⟩
theorem Drew.pre {α : Type} {R : FRel α} {g : Nat} {w0 w w' : World} {v : Value} {x : α} (h : Drew R g w w' v x) (hg : g < w0.heap.size) (hc : Chg g (g + 1) w0 w) : Drew R g w0 w' v x := by
  have hch := hc.trans h.chg
  obtain ⟨wm, hm, F, f1, f2, f3, f4⟩ := h
  have := hc.size
  have := hm.2
  exact Drew_of hg hch f1 f2 (fun b hb => by have := f3 b hb; omega)
/-- A value drawn before: it reads in every later world in which the box alone, and what was made since, may have turned. -/
theorem Drew.rd {α : Type} {R : FRel α} {R' : Rel α} (hR : Good R) (hRR : ∀ {w v x G}, R w v x G → R' w v x) {g : Nat} {w w' w2 : World} {v : Value} {x : α} (h : Drew R g w w' v x) (hg : g < w.heap.size) (hc : Chg g (g + 1) w' w2) : R' w2 v x := by
  obtain ⟨wm, hm, F, f1, f2, f3, f4⟩ := h
  exact Rd_chg (R := R) (R' := R') (B := w.heap.size) hRR hR f1 (fun b hb => by have := f3 b hb; have := hm.2; omega) hc hg
theorem Own_rdBB {w : World} {v : Value} {x : List (List UInt8)} {G : List Nat} (h : OBB w v x G) : Rd (Rd RB) w v x := h.rd (fun q => q.rd (fun k => k.rb))
def LenLe (n : Nat) (l : List (List UInt8)) : Prop := ∀ x ∈ l, x.length ≤ n

end Go.Proofs.Ytokhogdocaeelaa
