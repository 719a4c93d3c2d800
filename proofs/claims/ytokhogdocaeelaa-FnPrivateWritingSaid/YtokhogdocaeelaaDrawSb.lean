/- DrawShareBytes. -/
import Derived.Test.YtokhogdocaeelaaDraw2
namespace Go.Proofs.Ytokhogdocaeelaa
set_option linter.unusedVariables false
open Go.RowKit

theorem Drew.rdB {E : TypeId} {g : Nat} {w w' w2 : World} {v : Value} {x : List UInt8} (h : Drew (Own E FB) g w w' v x) (hg : g < w.heap.size) (hc : Chg g (g + 1) w' w2) : Rd RB w2 v x := by
  obtain ⟨wm, hm, F, f1, f2, f3, f4⟩ := h
  exact Rd_chg (R := Own E FB) (R' := Rd RB) (B := w.heap.size) (fun q => q.rd (fun k => k.rb)) (Own_good FB_good) f1 (fun b hb => by have := f3 b hb; have := hm.2; omega) hc hg
theorem Drew.rdI {E : TypeId} {g : Nat} {w w' w2 : World} {v : Value} {x : List Int} (h : Drew (Own E FI) g w w' v x) (hg : g < w.heap.size) (hc : Chg g (g + 1) w' w2) : Rd RI w2 v x := by
  obtain ⟨wm, hm, F, f1, f2, f3, f4⟩ := h
  exact Rd_chg (R := Own E FI) (R' := Rd RI) (B := w.heap.size) (fun q => q.rd (fun k => k.ri)) (Own_good FI_good) f1 (fun b hb => by have := f3 b hb; have := hm.2; omega) hc hg
end Go.Proofs.Ytokhogdocaeelaa
