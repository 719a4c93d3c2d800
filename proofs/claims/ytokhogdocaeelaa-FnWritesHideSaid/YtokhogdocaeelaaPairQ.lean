/- A row of rows and one value beside it, all blocks apart and each with a property Q. Plain theorems about worlds. -/
import Derived.Test.YtokhogdocaeelaaPair
namespace Go.Proofs.Ytokhogdocaeelaa
set_option linter.unusedVariables false
open Go.RowKit

def NRowQ {α : Type} (E : TypeId) (R : FRel α) (Q : Nat → Prop) (w : World) (v : Value) (n : Nat) (xs : List α) : Prop :=
  ∃ cells F, w.ownsRow 0 E 1 v n cells ∧ AllR R w cells xs F ∧ (v.ownBlock.toList ++ F).Nodup ∧ ∀ b, b ∈ v.ownBlock.toList ++ F → Q b
def PairQ {α : Type} (E : TypeId) (R : FRel α) (Q : Nat → Prop) (w : World) (vo : Value) (n : Nat) (xs : List α) (vl : Value) (x : α) : Prop :=
  ∃ cells F Fl, w.ownsRow 0 E 1 vo n cells ∧ AllR R w cells xs F ∧ R w vl x Fl ∧ (vo.ownBlock.toList ++ (F ++ Fl)).Nodup ∧ ∀ b, b ∈ vo.ownBlock.toList ++ (F ++ Fl) → Q b

section
variable {α : Type} {E : TypeId} {R : FRel α} {Q : Nat → Prop}

theorem NRowQ.base {w : World} {v : Value} {n B : Nat} {xs : List α} (h : NRowQ E R Q w v n xs) (hB : ∀ b, Q b → B ≤ b) : NRow E R B w v n xs [] := by
  obtain ⟨cells, F, k1, k2, k3, k4⟩ := h
  exact ⟨cells, F, by simpa using k1, k2, k3, fun b hb => hB b (k4 b hb)⟩
theorem NRowQ.below (hR : Good R) {w w' : World} {v : Value} {n : Nat} {xs : List α} (h : NRowQ E R Q w v n xs) (hb : Below w.heap.size w w') : NRowQ E R Q w' v n xs := by
  obtain ⟨cells, F, h1, h2, h3, h4⟩ := h
  exact ⟨cells, F, ownsRow_at h1 (fun b hb' => hb.block b (h1.lt b (by simpa using hb')).2), h2.stab hR (fun b hb' => hb.block b (h2.lt hR b hb')), h3, h4⟩
theorem PairQ.below (hR : Good R) {w w' : World} {vo vl : Value} {n : Nat} {xs : List α} {x : α} (h : PairQ E R Q w vo n xs vl x) (hb : Below w.heap.size w w') : PairQ E R Q w' vo n xs vl x := by
  obtain ⟨cells, F, Fl, h1, h2, h3, h4, h5⟩ := h
  exact ⟨cells, F, Fl, ownsRow_at h1 (fun b hb' => hb.block b (h1.lt b (by simpa using hb')).2), h2.stab hR (fun b hb' => hb.block b (h2.lt hR b hb')), hR.stab h3 (fun b hb' => hb.block b (hR.lt h3 b hb')), h4, h5⟩
/-- A store into a block that is not of theirs. -/
theorem PairQ.set (hR : Good R) {w : World} {vo vl : Value} {n : Nat} {xs : List α} {x : α} (h : PairQ E R Q w vo n xs vl x) {p : Addr} (hp : ¬ Q p.block) (u : Value) : PairQ E R Q (w.setCell p u) vo n xs vl x := by
  obtain ⟨cells, F, Fl, h1, h2, h3, h4, h5⟩ := h
  have ne : ∀ b, b ∈ vo.ownBlock.toList ++ (F ++ Fl) → b ≠ p.block := fun b hb e => hp (e ▸ h5 b hb)
  exact ⟨cells, F, Fl, ownsRow_at h1 (fun b hb' => Below.heap_setCell _ _ _ _ (ne b (List.mem_append_left _ hb'))), h2.stab hR (fun b hb' => Below.heap_setCell _ _ _ _ (ne b (List.mem_append_right _ (List.mem_append_left _ hb')))), hR.stab h3 (fun b hb' => Below.heap_setCell _ _ _ _ (ne b (List.mem_append_right _ (List.mem_append_right _ hb')))), h4, h5⟩
theorem PairQ.mono {Q' : Nat → Prop} {w : World} {vo vl : Value} {n : Nat} {xs : List α} {x : α} (h : PairQ E R Q w vo n xs vl x) (hQ : ∀ b, b < w.heap.size → Q b → Q' b) (hR : Good R) : PairQ E R Q' w vo n xs vl x := by
  obtain ⟨cells, F, Fl, h1, h2, h3, h4, h5⟩ := h
  refine ⟨cells, F, Fl, h1, h2, h3, h4, fun b hb => hQ b ?_ (h5 b hb)⟩
  rcases List.mem_append.1 hb with hb | hb
  · exact (h1.lt b (by simpa using hb)).2
  · rcases List.mem_append.1 hb with hb | hb
    · exact h2.lt hR b hb
    · exact hR.lt h3 b hb
theorem Pair.q {B : Nat} {w : World} {vo vl : Value} {n : Nat} {xs : List α} {x : α} (h : Pair E R B w vo n xs vl x) (hR : Good R) : PairQ E R (fun b => B ≤ b ∧ b < w.heap.size) w vo n xs vl x := by
  obtain ⟨cells, F, Fl, h1, h2, h3, h4, h5⟩ := h
  refine ⟨cells, F, Fl, h1, h2, h3, h4, fun b hb => ⟨h5 b hb, ?_⟩⟩
  rcases List.mem_append.1 hb with hb | hb
  · exact (h1.lt b (by simpa using hb)).2
  · rcases List.mem_append.1 hb with hb | hb
    · exact h2.lt hR b hb
    · exact hR.lt h3 b hb
/-- One element more, by append: u was made since w. -/
theorem NRowQ.app (hR : Good R) {w w1 w2 : World} {o : Obj} {v u v' : Value} {n : Nat} {xs : List α} {x : α} {cells : List Value} {F : List Nat} (k1 : w.ownsRow 0 E 1 v n cells) (k2 : AllR R w cells xs F) (k3 : (v.ownBlock.toList ++ F).Nodup) (k4 : ∀ b, b ∈ v.ownBlock.toList ++ F → Q b)
    (hu : Fresh R w w1 u x) (hB : ∀ b, w.heap.size ≤ b → Q b) (h1 : w2.ownsRow 0 E 1 v' (n + 1) (cells ++ [u])) (hg : (w1.alloc o).grownBy w2 v.ownBlock) (hat : v'.ownBlock = v.ownBlock ∨ v'.ownBlock = some (w1.alloc o).heap.size) :
    NRowQ E R Q w2 v' (n + 1) (xs ++ [x]) := by
  obtain ⟨F1, f1, f2, f3, f4⟩ := hu
  have hvlt : ∀ b, v.ownBlock = some b → b < w.heap.size := fun b hb => (k1.lt b hb).2
  have hFlt : ∀ b, b ∈ F → b < w.heap.size := fun b hb => k2.lt hR b hb
  have hF1lt : ∀ b, b ∈ F1 → b < w1.heap.size := fun b hb => hR.lt f1 b hb
  have hs := f4.size
  have hvF : ∀ b, v.ownBlock = some b → b ∉ F := fun b hb hbF => by
    rw [List.nodup_append] at k3
    exact k3.2.2 b (by simpa using hb) b hbF rfl
  have keep : ∀ b, b < w1.heap.size → some b ≠ v.ownBlock → w2.heap[b]? = w1.heap[b]? := fun b hb hne =>
    (hg.block b (by simp; omega) hne).trans (Below.heap_alloc w1 o b hb)
  have kF : AllR R w2 cells xs F := k2.stab hR (fun b hb => (keep b (by have := hFlt b hb; omega) (fun e => hvF b e.symm hb)).trans (f4.block b (hFlt b hb)))
  have kF1 : R w2 u x F1 := hR.stab f1 (fun b hb => keep b (hF1lt b hb) (fun e => by have := hvlt b e.symm; have := f3 b hb; omega))
  have hv' : ∀ b, v'.ownBlock = some b → (b ∉ F ∧ b ∉ F1) ∧ Q b := by
    intro b hb
    rcases hat with e | e
    · rw [e] at hb
      exact ⟨⟨hvF b hb, fun hb1 => by have := hvlt b hb; have := f3 b hb1; omega⟩, k4 b (List.mem_append_left _ (by simpa using hb))⟩
    · rw [e] at hb
      injection hb with hb
      rw [World.size_alloc] at hb
      exact ⟨⟨fun hbF => by have := hFlt b hbF; omega, fun hb1 => by have := hF1lt b hb1; omega⟩, hB b (by omega)⟩
  refine ⟨cells ++ [u], F ++ F1, by simpa using h1, kF.snoc kF1, ?_, ?_⟩
  · rw [List.nodup_append] at k3 ⊢
    refine ⟨ownBlock_nodup v', List.nodup_append.2 ⟨k3.2.1, f2, fun a ha b hb e => ?_⟩, fun a ha b hb e => ?_⟩
    · subst e
      have := hFlt a ha
      have := f3 a hb
      omega
    · subst e
      have := (hv' a (by simpa using ha)).1
      rcases List.mem_append.1 hb with hb | hb
      · exact this.1 hb
      · exact this.2 hb
  · intro b hb
    rcases List.mem_append.1 hb with hb | hb
    · exact (hv' b (by simpa using hb)).2
    · rcases List.mem_append.1 hb with hb | hb
      · exact k4 b (List.mem_append_right _ hb)
      · exact hB b (f3 b hb)

/-- A value made since beside a row. -/
theorem PairQ_fresh (hR : Good R) {w w1 : World} {vo vl : Value} {n : Nat} {xs : List α} {x : α} (h : NRowQ E R Q w vo n xs) (hu : Fresh R w w1 vl x) (hB : ∀ b, w.heap.size ≤ b → Q b) : PairQ E R Q w1 vo n xs vl x := by
  obtain ⟨cells, F, k1, k2, k3, k4⟩ := h
  obtain ⟨Fl, f1, f2, f3, f4⟩ := hu
  have hlt : ∀ b, b ∈ vo.ownBlock.toList ++ F → b < w.heap.size := fun b hb => by
    rcases List.mem_append.1 hb with hb | hb
    · exact (k1.lt b (by simpa using hb)).2
    · exact k2.lt hR b hb
  refine ⟨cells, F, Fl, ownsRow_at k1 (fun b hb => f4.block b (hlt b (List.mem_append_left _ hb))), k2.stab hR (fun b hb => f4.block b (hlt b (List.mem_append_right _ hb))), f1, ?_, fun b hb => ?_⟩
  · rw [← List.append_assoc]
    exact List.nodup_append.2 ⟨k3, f2, fun a ha b hb e => by subst e; have := hlt a ha; have := f3 a hb; omega⟩
  · rw [← List.append_assoc] at hb
    rcases List.mem_append.1 hb with hb | hb
    · exact k4 b hb
    · exact hB b (f3 b hb)

/-- The value beside goes into the row. -/
theorem PairQ.push (hR : Good R) {w w2 : World} {o : Obj} {vo vl v' : Value} {n : Nat} {xs : List α} {x : α} {cells : List Value} {F Fl : List Nat}
    (k1 : w.ownsRow 0 E 1 vo n cells) (k2 : AllR R w cells xs F) (k3 : R w vl x Fl) (k4 : (vo.ownBlock.toList ++ (F ++ Fl)).Nodup) (k5 : ∀ b, b ∈ vo.ownBlock.toList ++ (F ++ Fl) → Q b) (hB : ∀ b, w.heap.size ≤ b → Q b)
    (h1 : w2.ownsRow 0 E 1 v' (n + 1) (cells ++ [vl])) (hg : (w.alloc o).grownBy w2 vo.ownBlock) (hat : v'.ownBlock = vo.ownBlock ∨ v'.ownBlock = some (w.alloc o).heap.size) : NRowQ E R Q w2 v' (n + 1) (xs ++ [x]) := by
  have hn : ∀ b, vo.ownBlock = some b → b ∉ F ++ Fl := fun b hb hbF => (List.nodup_append.1 k4).2.2 b (by simpa using hb) b hbF rfl
  have hlt : ∀ b, b ∈ F ++ Fl → b < w.heap.size := fun b hb => by
    rcases List.mem_append.1 hb with hb | hb
    · exact k2.lt hR b hb
    · exact hR.lt k3 b hb
  have keep : ∀ b, b ∈ F ++ Fl → w2.heap[b]? = w.heap[b]? := fun b hb =>
    (hg.block b (by have := hlt b hb; simp; omega) (fun e => hn b e.symm hb)).trans (Below.heap_alloc w o b (hlt b hb))
  have a1 := k2.stab (w' := w2) hR (fun b hb => keep b (List.mem_append_left _ hb))
  have a2 : R w2 vl x Fl := hR.stab k3 (fun b hb => keep b (List.mem_append_right _ hb))
  refine ⟨cells ++ [vl], F ++ Fl, by simpa using h1, a1.snoc a2, ?_, fun b hb => ?_⟩
  · refine List.nodup_append.2 ⟨ownBlock_nodup v', (List.nodup_append.1 k4).2.1, fun a ha b hb e => ?_⟩
    subst e
    rcases hat with e | e
    · rw [e] at ha
      exact hn a (by simpa using ha) hb
    · rw [e] at ha
      simp at ha
      have := hlt a hb
      omega
  · rcases List.mem_append.1 hb with hb | hb
    · rcases hat with e | e
      · rw [e] at hb
        exact k5 b (List.mem_append_left _ hb)
      · rw [e] at hb
        simp at hb
        exact hB b (by omega)
    · exact k5 b (List.mem_append_right _ hb)

/-- One element more by append; the value beside stays. -/
theorem PairQ_app2 (hR : Good R) {wr w1 w3 : World} {o : Obj} {vo v vl v' : Value} {n : Nat} {xs : List α} {x y : α} {cells : List Value} {F Fl : List Nat}
    (k1 : wr.ownsRow 0 E 1 vo n cells) (k2 : AllR R wr cells xs F) (k3 : R wr vl y Fl) (k4 : (vo.ownBlock.toList ++ (F ++ Fl)).Nodup) (k5 : ∀ b, b ∈ vo.ownBlock.toList ++ (F ++ Fl) → Q b) (hB : ∀ b, wr.heap.size ≤ b → Q b)
    (hv : Fresh R wr w1 v x) (h1 : w3.ownsRow 0 E 1 v' (n + 1) (cells ++ [v])) (hg : (w1.alloc o).grownBy w3 vo.ownBlock) (hat : v'.ownBlock = vo.ownBlock ∨ v'.ownBlock = some (w1.alloc o).heap.size) :
    NRowQ E R Q w3 v' (n + 1) (xs ++ [x]) ∧ (∃ F', R w3 vl y F') ∧ (∃ F', R w3 v x F') := by
  have k4' := k4
  rw [← List.append_assoc] at k4'
  refine ⟨NRowQ.app hR k1 k2 (List.nodup_append.1 k4').1 (fun b hb => k5 b (by rw [← List.append_assoc]; exact List.mem_append_left _ hb)) hv hB h1 hg hat, ⟨Fl, hR.stab k3 (fun b hb => ?_)⟩, ?_⟩
  · obtain ⟨_, _, _, _, f4⟩ := hv
    have hs := f4.size
    have hlt := hR.lt k3 b hb
    have hne : some b ≠ vo.ownBlock := fun e => (List.nodup_append.1 k4).2.2 b (by rw [← e]; simp) b (List.mem_append_right _ hb) rfl
    rw [hg.block b (by simp; omega) hne, Below.heap_alloc w1 o b (by omega), f4.block b hlt]
  · obtain ⟨Fv, f1, _, f3, f4⟩ := hv
    refine ⟨Fv, hR.stab f1 (fun b hb => ?_)⟩
    have hlt := hR.lt f1 b hb
    have hge := f3 b hb
    have hne : some b ≠ vo.ownBlock := fun e => by have := (k1.lt b e.symm).2; omega
    rw [hg.block b (by simp; omega) hne, Below.heap_alloc w1 o b hlt]
end
end Go.Proofs.Ytokhogdocaeelaa
