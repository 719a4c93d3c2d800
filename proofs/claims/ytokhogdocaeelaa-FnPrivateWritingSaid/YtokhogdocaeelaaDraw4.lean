/- The drawing functions: any database, a cell, the arguments of ReplaceRow and of ReadPrivately. -/
import Derived.Test.YtokhogdocaeelaaDraw3
import Derived.IntWalk
namespace Go.Proofs.Ytokhogdocaeelaa
set_option linter.unusedVariables false
open Go.RowKit

/-- One element more, by append, of a row whose blocks are not g's; then a store into block g. -/
theorem app_other {α : Type} {E : TypeId} {R : FRel α} (hR : Good R) {B n : Nat} {w w1 w2 : World} {o : Obj} {v u v' z : Value} {xs : List α} {x : α} {cells : List Value} {F : List Nat} {gd : Nat} (k1 : w.ownsRow 0 E 1 v n cells) (k2 : AllR R w cells xs F) (k3 : (v.ownBlock.toList ++ F).Nodup) (k4 : ∀ b, b ∈ v.ownBlock.toList ++ F → B ≤ b)
    (hgd : gd < w.heap.size) (hne : ∀ b, b ∈ v.ownBlock.toList ++ F → b ≠ gd) (hu : Fresh R w w1 u x) (hB : B ≤ w.heap.size) (h1 : w2.ownsRow 0 E 1 v' (n + 1) (cells ++ [u])) (hg : (w1.alloc o).grownBy w2 v.ownBlock) (hat : v'.ownBlock = v.ownBlock ∨ v'.ownBlock = some (w1.alloc o).heap.size) :
    NRow E R B (w2.setCell ⟨gd, 0, none⟩ z) v' (n + 1) (xs ++ [x]) [] := by
  obtain ⟨F1, f1, f2, f3, f4⟩ := hu
  have hvlt : ∀ b, v.ownBlock = some b → b < w.heap.size := fun b hb => (k1.lt b hb).2
  have hFlt : ∀ b, b ∈ F → b < w.heap.size := fun b hb => k2.lt hR b hb
  have hF1lt : ∀ b, b ∈ F1 → b < w1.heap.size := fun b hb => hR.lt f1 b hb
  have hs := f4.size
  have hvF : ∀ b, v.ownBlock = some b → b ∉ F := fun b hb hbF => by
    rw [List.nodup_append] at k3
    exact k3.2.2 b (by simpa using hb) b hbF rfl
  have keep : ∀ b, b < w1.heap.size → some b ≠ v.ownBlock → b ≠ gd → (w2.setCell ⟨gd, 0, none⟩ z).heap[b]? = w1.heap[b]? := fun b hb hn hgb =>
    (Below.heap_setCell w2 ⟨gd, 0, none⟩ z b hgb).trans ((hg.block b (by simp; omega) hn).trans (Below.heap_alloc w1 o b hb))
  have kF : AllR R (w2.setCell ⟨gd, 0, none⟩ z) cells xs F := k2.stab hR (fun b hb => (keep b (by have := hFlt b hb; omega) (fun e => hvF b e.symm hb) (hne b (List.mem_append_right _ hb))).trans (f4.block b (hFlt b hb)))
  have kF1 : R (w2.setCell ⟨gd, 0, none⟩ z) u x F1 := hR.stab f1 (fun b hb => keep b (hF1lt b hb) (fun e => by have := hvlt b e.symm; have := f3 b hb; omega) (fun e => by have := f3 b hb; omega))
  have hv' : ∀ b, v'.ownBlock = some b → (b ∉ F ∧ b ∉ F1) ∧ B ≤ b ∧ b ≠ gd := by
    intro b hb
    rcases hat with e | e
    · rw [e] at hb
      exact ⟨⟨hvF b hb, fun hb1 => by have := hvlt b hb; have := f3 b hb1; omega⟩, k4 b (List.mem_append_left _ (by simpa using hb)), hne b (List.mem_append_left _ (by simpa using hb))⟩
    · rw [e] at hb
      injection hb with hb
      rw [World.size_alloc] at hb
      exact ⟨⟨fun hbF => by have := hFlt b hbF; omega, fun hb1 => by have := hF1lt b hb1; omega⟩, by omega, by omega⟩
  refine ⟨cells ++ [u], F ++ F1, by simpa using ownsRow_at h1 (fun b hb => Below.heap_setCell w2 ⟨gd, 0, none⟩ z b (hv' b (by simpa using hb)).2.2), kF.snoc kF1, ?_, ?_⟩
  · rw [List.nodup_append] at k3 ⊢
    refine ⟨ownBlock_nodup v', List.nodup_append.2 ⟨k3.2.1, f2, fun a ha b hb e => ?_⟩, fun a ha b hb e => ?_⟩
    · subst e
      have := hFlt a ha
      have := f3 a hb
      omega
    · subst e
      have := (hv' a (by simpa using ha)).1
      rcases List.mem_append.1 hb with hb | hb
      · exact this.1 hb
      · exact this.2 hb
  · intro b hb
    rcases List.mem_append.1 hb with hb | hb
    · exact (hv' b (by simpa using hb)).2.1
    · rcases List.mem_append.1 hb with hb | hb
      · exact k4 b (List.mem_append_right _ hb)
      · exact Nat.le_trans hB (f3 b hb)

end Go.Proofs.Ytokhogdocaeelaa
