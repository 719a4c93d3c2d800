/- A cut around a statement whose result struct's box may be made before or after its calls. Plain theorems about worlds. -/
import Derived.Test.YtdnifmcipbnncaaDb
import Derived.Test.YtdnifmcipbnncaaBoxes
import Derived.Deep.DeepCutAuto
namespace Go.Proofs.Ytdnifmcipbnncaa
set_option linter.unusedVariables false
open Go.RowKit

def CutDb (t : TypeId) (W0 : World) (P : List (List UInt8)) (ok : Bool) (s s' : Value) (wx : World) : Prop :=
  ∃ g A l c, s = .pointer (some ⟨g, 0, none⟩) ∧ s' = .bool ok ∧ Box wx g t #[.slice A l c] ∧ Iv OBB W0.heap.size wx.heap.size wx (.slice A l c) P ∧ Below W0.heap.size W0 wx

theorem cut_set {t : TypeId} {W0 W wz : World} {P : List (List UInt8)} {ok : Bool} {u : Value} {g : Nat} {A : Option Addr} {l c : Nat} (F : Fresh OBB W wz (.slice A l c) P) (bg : Box wz g t #[u]) (hg : g < W.heap.size) (h0 : W0.heap.size ≤ g) (D : Below W0.heap.size W0 W) :
    CutDb t W0 P ok (.pointer (some ⟨g, 0, none⟩)) (.bool ok) (wz.setCell ⟨g, 0, none⟩ (.slice A l c)) := by
  have G : FreshG OBB W0 W.heap.size wz (.slice A l c) P := F.g D
  obtain ⟨F', k1, k2, k3, k4⟩ := FreshG.set OBB_good G (p := ⟨g, 0, none⟩) h0 hg (.slice A l c)
  exact ⟨g, A, l, c, rfl, rfl, bg.set_ 0 _, ⟨F', k1, k2, fun b hb => ⟨Nat.le_trans D.size (k3 b hb), OBB_good.lt k1 b hb⟩⟩, k4⟩
theorem cut_new {t : TypeId} {W0 W wz : World} {P : List (List UInt8)} {ok : Bool} {A : Option Addr} {l c : Nat} (F : Fresh OBB W wz (.slice A l c) P) (D : Below W0.heap.size W0 W) :
    CutDb t W0 P ok (.pointer (some ⟨wz.heap.size, 0, none⟩)) (.bool ok) (wz.alloc (.cells #[.slice A l c] t)) := by
  have G : FreshG OBB W0 W.heap.size wz (.slice A l c) P := F.g D
  obtain ⟨F', k1, k2, k3, k4⟩ := FreshG.alloc OBB_good G (.cells #[.slice A l c] t)
  exact ⟨_, A, l, c, rfl, rfl, Box.new wz t _, ⟨F', k1, k2, fun b hb => ⟨Nat.le_trans D.size (k3 b hb), OBB_good.lt k1 b hb⟩⟩, k4⟩
theorem set_keep {wz : World} {g : Nat} {t : TypeId} {cs : Array Value} {v : Value} {p : Addr} (bg : Box wz g t cs) (h : wz.cell? p = some v) (hp : p.block ≠ g) (u : Value) : (wz.setCell ⟨g, 0, none⟩ u).cell? p = some v :=
  (World.cell?_of_block (a := p) (Below.heap_setCell wz ⟨g, 0, none⟩ u p.block hp)).trans h
end Go.Proofs.Ytdnifmcipbnncaa
