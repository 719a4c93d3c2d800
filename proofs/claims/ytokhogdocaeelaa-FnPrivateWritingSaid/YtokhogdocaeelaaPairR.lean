/- A row of rows, an element made since and a value made after it: the element goes into the row, the value stays beside. Plain theorems about worlds. -/
import Derived.Test.YtokhogdocaeelaaPairQ
namespace Go.Proofs.Ytokhogdocaeelaa
set_option linter.unusedVariables false
open Go.RowKit

section
variable {α : Type} {E : TypeId} {R : FRel α} {Q : Nat → Prop}

theorem nodup_three {o F Fv Fl : List Nat} {n1 n2 : Nat} (k : (o ++ F).Nodup) (ka : ∀ b, b ∈ o ++ F → b < n1) (d : Fv.Nodup) (dv : ∀ b, b ∈ Fv → n1 ≤ b ∧ b < n2) (l : Fl.Nodup) (dl : ∀ b, b ∈ Fl → n2 ≤ b) (h12 : n1 ≤ n2) : (o ++ ((F ++ Fv) ++ Fl)).Nodup := by
  have e : o ++ ((F ++ Fv) ++ Fl) = (o ++ F) ++ (Fv ++ Fl) := by simp
  rw [e]
  refine List.nodup_append.2 ⟨k, List.nodup_append.2 ⟨d, l, fun a ha b hb e => ?_⟩, fun a ha b hb e => ?_⟩
  · subst e
    have := dv a ha
    have := dl a hb
    omega
  · subst e
    have := ka a ha
    rcases List.mem_append.1 hb with hb | hb
    · have := dv a hb
      omega
    · have := dl a hb
      omega
theorem PairQ_app3 (hR : Good R) {W w3 : World} {o : Obj} {vo v l v' : Value} {n : Nat} {xs : List α} {x y : α} {cells : List Value} {F Fv Fl : List Nat}
    (k1 : W.ownsRow 0 E 1 vo n cells) (k2 : AllR R W cells xs F) (kv : R W v x Fv) (kl : R W l y Fl) (kn : (vo.ownBlock.toList ++ ((F ++ Fv) ++ Fl)).Nodup) (kq : ∀ b, b ∈ vo.ownBlock.toList ++ ((F ++ Fv) ++ Fl) → Q b) (hB : ∀ b, W.heap.size ≤ b → Q b)
    (h1 : w3.ownsRow 0 E 1 v' (n + 1) (cells ++ [v])) (hg : (W.alloc o).grownBy w3 vo.ownBlock) (hat : v'.ownBlock = vo.ownBlock ∨ v'.ownBlock = some (W.alloc o).heap.size) : PairQ E R Q w3 v' (n + 1) (xs ++ [x]) l y := by
  have hn : ∀ b, vo.ownBlock = some b → b ∉ (F ++ Fv) ++ Fl := fun b hb hbF => (List.nodup_append.1 kn).2.2 b (by simpa using hb) b hbF rfl
  have hlt : ∀ b, b ∈ (F ++ Fv) ++ Fl → b < W.heap.size := fun b hb => by
    rcases List.mem_append.1 hb with hb | hb
    · rcases List.mem_append.1 hb with hb | hb
      · exact k2.lt hR b hb
      · exact hR.lt kv b hb
    · exact hR.lt kl b hb
  have keep : ∀ b, b ∈ (F ++ Fv) ++ Fl → w3.heap[b]? = W.heap[b]? := fun b hb =>
    (hg.block b (by have := hlt b hb; simp; omega) (fun e => hn b e.symm hb)).trans (Below.heap_alloc W o b (hlt b hb))
  have a1 := k2.stab (w' := w3) hR (fun b hb => keep b (List.mem_append_left _ (List.mem_append_left _ hb)))
  have a2 : R w3 v x Fv := hR.stab kv (fun b hb => keep b (List.mem_append_left _ (List.mem_append_right _ hb)))
  have a3 : R w3 l y Fl := hR.stab kl (fun b hb => keep b (List.mem_append_right _ hb))
  refine ⟨cells ++ [v], F ++ Fv, Fl, by simpa using h1, a1.snoc a2, a3, ?_, fun b hb => ?_⟩
  · refine List.nodup_append.2 ⟨ownBlock_nodup v', (List.nodup_append.1 kn).2.1, fun a ha b hb e => ?_⟩
    subst e
    rcases hat with e | e
    · rw [e] at ha
      exact hn a (by simpa using ha) hb
    · rw [e] at ha
      simp at ha
      have := hlt a hb
      omega
  · rcases List.mem_append.1 hb with hb | hb
    · rcases hat with e | e
      · rw [e] at hb
        exact kq b (List.mem_append_left _ hb)
      · rw [e] at hb
        simp at hb
        exact hB b (by omega)
    · exact kq b (List.mem_append_right _ hb)
end
end Go.Proofs.Ytokhogdocaeelaa
