/- What keeps while a row beside it grows. Plain theorems about worlds. -/
import Derived.Test.YtokhogdocaeelaaPair
import Derived.Test.YtokhogdocaeelaaBoxes
namespace Go.Proofs.Ytokhogdocaeelaa
set_option linter.unusedVariables false
open Go.RowKit

theorem Rd.at_same {α : Type} {R : Rel α} {w : World} {A : Option Addr} {n c : Nat} {xs : List α} (h : Rd R w (.slice A n c) xs) : RdAt R w A n c xs := by
  obtain ⟨A', n', c', e, h⟩ := h
  injection e with e1 e2 e3
  subst e1 e2 e3
  exact h

/-- It holds in every world that keeps this one's blocks but the row's, and what lay below B at the start. -/
def KeepL (B : Nat) (w0 w : World) (vo : Value) (P : World → Prop) : Prop := ∀ w3, Below w0.heap.size w0 w3 → (∀ b, b < w.heap.size → some b ≠ vo.ownBlock → w3.heap[b]? = w.heap[b]?) → P w3

theorem KeepL.before {α : Type} {R : FRel α} (hR : Good R) {B : Nat} {w0 w w1 : World} {vo v : Value} {x : α} (h : Fresh R w w1 v x) (hv : ∀ b, vo.ownBlock = some b → b < w.heap.size) : KeepL B w0 w1 vo (fun W => ∃ F, R W v x F) := by
  obtain ⟨F, f1, _, f3, _⟩ := h
  exact fun w3 _ hk => ⟨F, hR.stab f1 (fun b hb => hk b (hR.lt f1 b hb) (fun e => by have := hv b e.symm; have := f3 b hb; omega))⟩
theorem KeepL.after {α : Type} {R : FRel α} (hR : Good R) {B : Nat} {w0 w w1 w2 : World} {vo v : Value} {x : α} (h : Fresh R w w1 v x) (hs : w1.heap.size ≤ w2.heap.size) (hb2 : ∀ b, b < w1.heap.size → w2.heap[b]? = w1.heap[b]?) (hv : vo.ownBlock = some w1.heap.size) : KeepL B w0 w2 vo (fun W => ∃ F, R W v x F) := by
  obtain ⟨F, f1, _, f3, _⟩ := h
  refine fun w3 _ hk => ⟨F, hR.stab f1 (fun b hb => ?_)⟩
  have hlt := hR.lt f1 b hb
  rw [hk b (by omega) (fun e => by rw [hv] at e; injection e with e; omega), hb2 b hlt]
theorem KeepL.here {B : Nat} {w0 w : World} {vo : Value} {P : World → Prop} (h : KeepL B w0 w vo P) (hb : Below w0.heap.size w0 w) : P w := h w hb (fun _ _ _ => rfl)

/-- One element more onto the row. -/
theorem keep_app {α : Type} {E : TypeId} {R : FRel α} (hR : Good R) {B : Nat} {w0 wr w3 w4 : World} {o : Obj} {k : Nat} {vo v4 u : Value} {xs : List α} {x : α} {cells : List Value} {F : List Nat} {P : World → Prop}
    (k1 : wr.ownsRow 0 E 1 vo k cells) (k2 : AllR R wr cells xs F) (k3 : (vo.ownBlock.toList ++ F).Nodup) (k4 : ∀ b, b ∈ vo.ownBlock.toList ++ F → B ≤ b) (hu : Fresh R wr w3 u x) (hB : B ≤ wr.heap.size) (hK : KeepL B w0 wr vo P)
    (hown : w4.ownsRow 0 E 1 v4 (k + 1) (cells ++ [u])) (hg : (w3.alloc o).grownBy w4 vo.ownBlock) (hat : v4.ownBlock = vo.ownBlock ∨ v4.ownBlock = some (w3.alloc o).heap.size) :
    NRow E R B w4 v4 (k + 1) (xs ++ [x]) [] ∧ KeepL B w0 w4 v4 P ∧ (∀ g t cs, g < B → Box w3 g t cs → Box w4 g t cs) ∧ (∀ B0 W0, B0 ≤ B → Below B0 W0 w3 → Below B0 W0 w4) := by
  have hs := hu.below.size
  have hs4 := (Below.refl (w3.alloc o).heap.size (w3.alloc o)).alloc (Nat.le_refl _) o
  refine ⟨NRow.app hR k1 k2 k3 k4 hu hB hown hg hat, fun w5 hb5 hk5 => hK w5 hb5 (fun b hb hne => ?_), fun g t cs hgB hb => ?_, fun B0 W0 h0 hb0 => ?_⟩
  · have hne4 : some b ≠ v4.ownBlock := by
      rcases hat with e | e
      · rw [e]; exact hne
      · rw [e]
        intro e2
        injection e2 with e2
        rw [World.size_alloc] at e2
        omega
    have hsz := hg.size
    rw [hk5 b (by simp at hsz; omega) hne4, hg.block b (by simp; omega) hne, Below.heap_alloc w3 o b (by omega), hu.below.block b hb]
  · refine Box.grown (hb.alloc o) hg (fun e => ?_)
    have := k4 g (List.mem_append_left _ (by rw [← e]; simp))
    omega
  · refine NRow.app_below (w1 := w3) hb0 (by omega) (fun q hq => ?_) hg
    have := k4 q (List.mem_append_left _ (by rw [hq]; simp))
    omega
end Go.Proofs.Ytokhogdocaeelaa
