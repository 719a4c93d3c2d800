/- A row of rows and one value beside it, all blocks apart. Plain theorems about worlds. -/
import Derived.Test.YtokhogdocaeelaaNest
import Derived.Test.YtokhogdocaeelaaRow
namespace Go.Proofs.Ytokhogdocaeelaa
set_option linter.unusedVariables false
open Go.RowKit

def Pair {α : Type} (E : TypeId) (R : FRel α) (B : Nat) (w : World) (vo : Value) (n : Nat) (xs : List α) (vl : Value) (x : α) : Prop :=
  ∃ cells F Fl, w.ownsRow 0 E 1 vo n cells ∧ AllR R w cells xs F ∧ R w vl x Fl ∧ (vo.ownBlock.toList ++ (F ++ Fl)).Nodup ∧ ∀ b, b ∈ vo.ownBlock.toList ++ (F ++ Fl) → B ≤ b

section
variable {α : Type} {E : TypeId} {R : FRel α} {B : Nat}

theorem Pair.read {w : World} {vo vl : Value} {n : Nat} {xs : List α} {x : α} (h : Pair E R B w vo n xs vl x) : ∃ F, R w vl x F := by
  obtain ⟨_, _, Fl, _, _, h3, _⟩ := h
  exact ⟨Fl, h3⟩
theorem Pair.nrow {w : World} {vo vl : Value} {n : Nat} {xs : List α} {x : α} (h : Pair E R B w vo n xs vl x) : NRow E R B w vo n xs [] := by
  obtain ⟨cells, F, Fl, h1, h2, h3, h4, h5⟩ := h
  refine ⟨cells, F, by simpa using h1, h2, ?_, fun b hb => h5 b ?_⟩
  · rw [← List.append_assoc] at h4
    exact (List.nodup_append.1 h4).1
  · rw [← List.append_assoc]
    exact List.mem_append_left _ hb

/-- A value made since beside a row. -/
theorem Pair_fresh (hR : Good R) {w w1 : World} {vo vl : Value} {n : Nat} {xs : List α} {x : α} (h : NRow E R B w vo n xs []) (hu : Fresh R w w1 vl x) (hB : B ≤ w.heap.size) : Pair E R B w1 vo n xs vl x := by
  obtain ⟨cells, F, k1, k2, k3, k4⟩ := h.open_
  obtain ⟨Fl, f1, f2, f3, f4⟩ := hu
  have hlt : ∀ b, b ∈ vo.ownBlock.toList ++ F → b < w.heap.size := fun b hb => by
    rcases List.mem_append.1 hb with hb | hb
    · exact (k1.lt b (by simpa using hb)).2
    · exact k2.lt hR b hb
  refine ⟨cells, F, Fl, ownsRow_at k1 (fun b hb => f4.block b (hlt b (List.mem_append_left _ hb))), k2.stab hR (fun b hb => f4.block b (hlt b (List.mem_append_right _ hb))), f1, ?_, fun b hb => ?_⟩
  · rw [← List.append_assoc]
    exact List.nodup_append.2 ⟨k3, f2, fun a ha b hb e => by subst e; have := hlt a ha; have := f3 a hb; omega⟩
  · rw [← List.append_assoc] at hb
    rcases List.mem_append.1 hb with hb | hb
    · exact k4 b hb
    · exact Nat.le_trans hB (f3 b hb)

/-- An empty row just built beside a value made before. -/
theorem Pair_lit (hR : Good R) {w w1 : World} {vl : Value} {x : α} (hu : Fresh R w w1 vl x) : Pair E R w.heap.size (w1.alloc (.cells #[] E)) (.slice (some ⟨w1.heap.size, 0, none⟩) 0 0) 0 [] vl x := by
  obtain ⟨Fl, f1, f2, f3, f4⟩ := hu
  have ho := World.ownsRow_lit (base := 0) (e := E) (size := 1) w1 (#[] : Array Value) 0 (Nat.zero_le _) (by simp) (by simp)
  refine ⟨[], [], Fl, by simpa using ho, rfl, hR.stab f1 (fun b hb => Below.heap_alloc _ _ _ (hR.lt f1 b hb)), ?_, fun b hb => ?_⟩
  · simp only [Value.ownBlock, Option.toList_some, List.nil_append, List.cons_append, List.nodup_cons]
    exact ⟨fun hm => by have := hR.lt f1 _ hm; omega, f2⟩
  · simp only [Value.ownBlock, Option.toList_some, List.nil_append, List.cons_append, List.mem_cons] at hb
    rcases hb with rfl | hb
    · exact f4.size
    · exact f3 b hb

/-- The value beside goes into the row. -/
theorem Pair.push (hR : Good R) {w w2 : World} {o : Obj} {vo vl v' : Value} {n : Nat} {xs : List α} {x : α} {cells : List Value} {F Fl : List Nat}
    (k1 : w.ownsRow 0 E 1 vo n cells) (k2 : AllR R w cells xs F) (k3 : R w vl x Fl) (k4 : (vo.ownBlock.toList ++ (F ++ Fl)).Nodup) (k5 : ∀ b, b ∈ vo.ownBlock.toList ++ (F ++ Fl) → B ≤ b) (hB : B ≤ w.heap.size)
    (h1 : w2.ownsRow 0 E 1 v' (n + 1) (cells ++ [vl])) (hg : (w.alloc o).grownBy w2 vo.ownBlock) (hat : v'.ownBlock = vo.ownBlock ∨ v'.ownBlock = some (w.alloc o).heap.size) : NRow E R B w2 v' (n + 1) (xs ++ [x]) [] := by
  have hn : ∀ b, vo.ownBlock = some b → b ∉ F ++ Fl := fun b hb hbF => (List.nodup_append.1 k4).2.2 b (by simpa using hb) b hbF rfl
  have hlt : ∀ b, b ∈ F ++ Fl → b < w.heap.size := fun b hb => by
    rcases List.mem_append.1 hb with hb | hb
    · exact k2.lt hR b hb
    · exact hR.lt k3 b hb
  have keep : ∀ b, b ∈ F ++ Fl → w2.heap[b]? = w.heap[b]? := fun b hb =>
    (hg.block b (by have := hlt b hb; simp; omega) (fun e => hn b e.symm hb)).trans (Below.heap_alloc w o b (hlt b hb))
  have a1 := k2.stab (w' := w2) hR (fun b hb => keep b (List.mem_append_left _ hb))
  have a2 : R w2 vl x Fl := hR.stab k3 (fun b hb => keep b (List.mem_append_right _ hb))
  refine ⟨cells ++ [vl], F ++ Fl, by simpa using h1, a1.snoc a2, ?_, fun b hb => ?_⟩
  · refine List.nodup_append.2 ⟨ownBlock_nodup v', (List.nodup_append.1 k4).2.1, fun a ha b hb e => ?_⟩
    subst e
    rcases hat with e | e
    · rw [e] at ha
      exact hn a (by simpa using ha) hb
    · rw [e] at ha
      simp at ha
      have := hlt a hb
      omega
  · rcases List.mem_append.1 hb with hb | hb
    · rcases hat with e | e
      · rw [e] at hb
        exact k5 b (List.mem_append_left _ hb)
      · rw [e] at hb
        simp at hb
        omega
    · exact k5 b (List.mem_append_right _ hb)

/-- One element more by append, behind a call that made the value beside: v was made from wr to w1, l from w1 to w2. -/
theorem Pair_app (hR : Good R) {wr w1 w2 w3 : World} {o : Obj} {vo v l v' : Value} {n : Nat} {xs : List α} {x y : α} {cells : List Value} {F : List Nat}
    (k1 : wr.ownsRow 0 E 1 vo n cells) (k2 : AllR R wr cells xs F) (k3 : (vo.ownBlock.toList ++ F).Nodup) (k4 : ∀ b, b ∈ vo.ownBlock.toList ++ F → B ≤ b) (hB : B ≤ wr.heap.size)
    (hv : Fresh R wr w1 v x) (hl : Fresh R w1 w2 l y) (h1 : w3.ownsRow 0 E 1 v' (n + 1) (cells ++ [v])) (hg : (w2.alloc o).grownBy w3 vo.ownBlock) (hat : v'.ownBlock = vo.ownBlock ∨ v'.ownBlock = some (w2.alloc o).heap.size) : Pair E R B w3 v' (n + 1) (xs ++ [x]) l y := by
  obtain ⟨Fv, f1, f2, f3, f4⟩ := hv
  obtain ⟨Fl, g1, g2, g3, g4⟩ := hl
  have hs1 := f4.size
  have hs2 := g4.size
  have ho : ∀ b, vo.ownBlock = some b → b < wr.heap.size := fun b hb => (k1.lt b hb).2
  have hF : ∀ b, b ∈ F → b < wr.heap.size := fun b hb => k2.lt hR b hb
  have hFv : ∀ b, b ∈ Fv → b < w1.heap.size := fun b hb => hR.lt f1 b hb
  have hFl : ∀ b, b ∈ Fl → b < w2.heap.size := fun b hb => hR.lt g1 b hb
  have hoF : ∀ b, vo.ownBlock = some b → b ∉ F := fun b hb hbF => (List.nodup_append.1 k3).2.2 b (by simpa using hb) b hbF rfl
  have keep : ∀ b, b < w2.heap.size → some b ≠ vo.ownBlock → w3.heap[b]? = w2.heap[b]? := fun b hb hne => (hg.block b (by simp; omega) hne).trans (Below.heap_alloc w2 o b hb)
  have a1 : AllR R w3 cells xs F := k2.stab hR (fun b hb => by
    have := hF b hb
    rw [keep b (by omega) (fun e => hoF b e.symm hb), g4.block b (by omega), f4.block b (by omega)])
  have a2 : R w3 v x Fv := hR.stab f1 (fun b hb => by
    have := hFv b hb
    have := f3 b hb
    rw [keep b (by omega) (fun e => by have := ho b e.symm; omega), g4.block b (by omega)])
  have a3 : R w3 l y Fl := hR.stab g1 (fun b hb => by
    have := hFl b hb
    have := g3 b hb
    exact keep b (by omega) (fun e => by have := ho b e.symm; omega))
  have hv' : ∀ b, v'.ownBlock = some b → (b ∉ F ∧ b ∉ Fv ∧ b ∉ Fl) ∧ B ≤ b := by
    intro b hb
    rcases hat with e | e
    · rw [e] at hb
      have := ho b hb
      exact ⟨⟨hoF b hb, fun h => by have := f3 b h; omega, fun h => by have := g3 b h; omega⟩, k4 b (List.mem_append_left _ (by simpa using hb))⟩
    · rw [e] at hb
      injection hb with hb
      rw [World.size_alloc] at hb
      exact ⟨⟨fun h => by have := hF b h; omega, fun h => by have := hFv b h; omega, fun h => by have := hFl b h; omega⟩, by omega⟩
  refine ⟨cells ++ [v], F ++ Fv, Fl, h1, a1.snoc a2, a3, ?_, fun b hb => ?_⟩
  · refine List.nodup_append.2 ⟨ownBlock_nodup v', List.nodup_append.2 ⟨List.nodup_append.2 ⟨(List.nodup_append.1 k3).2.1, f2, fun a ha b hb e => ?_⟩, g2, fun a ha b hb e => ?_⟩, fun a ha b hb e => ?_⟩
    · subst e; have := hF a ha; have := f3 a hb; omega
    · subst e
      have := g3 a hb
      rcases List.mem_append.1 ha with ha | ha
      · have := hF a ha; omega
      · have := hFv a ha; omega
    · subst e
      have q := (hv' a (by simpa using ha)).1
      rcases List.mem_append.1 hb with hb | hb
      · rcases List.mem_append.1 hb with hb | hb
        · exact q.1 hb
        · exact q.2.1 hb
      · exact q.2.2 hb
  · rcases List.mem_append.1 hb with hb | hb
    · exact (hv' b (by simpa using hb)).2
    · rcases List.mem_append.1 hb with hb | hb
      · rcases List.mem_append.1 hb with hb | hb
        · exact k4 b (List.mem_append_right _ hb)
        · have := f3 b hb; omega
      · have := g3 b hb; omega

/-- One element more by append; the value beside stays. -/
theorem Pair_app2 (hR : Good R) {wr w1 w3 : World} {o : Obj} {vo v vl v' : Value} {n : Nat} {xs : List α} {x y : α} {cells : List Value} {F Fl : List Nat}
    (k1 : wr.ownsRow 0 E 1 vo n cells) (k2 : AllR R wr cells xs F) (k3 : R wr vl y Fl) (k4 : (vo.ownBlock.toList ++ (F ++ Fl)).Nodup) (k5 : ∀ b, b ∈ vo.ownBlock.toList ++ (F ++ Fl) → B ≤ b) (hB : B ≤ wr.heap.size)
    (hv : Fresh R wr w1 v x) (h1 : w3.ownsRow 0 E 1 v' (n + 1) (cells ++ [v])) (hg : (w1.alloc o).grownBy w3 vo.ownBlock) (hat : v'.ownBlock = vo.ownBlock ∨ v'.ownBlock = some (w1.alloc o).heap.size) :
    NRow E R B w3 v' (n + 1) (xs ++ [x]) [] ∧ (∃ F', R w3 vl y F') ∧ (∃ F', R w3 v x F') := by
  have k4' := k4
  rw [← List.append_assoc] at k4'
  refine ⟨NRow.app hR k1 k2 (List.nodup_append.1 k4').1 (fun b hb => k5 b (by rw [← List.append_assoc]; exact List.mem_append_left _ hb)) hv hB h1 hg hat, ⟨Fl, hR.stab k3 (fun b hb => ?_)⟩, ?_⟩
  · obtain ⟨_, _, _, _, f4⟩ := hv
    have hs := f4.size
    have hlt := hR.lt k3 b hb
    have hne : some b ≠ vo.ownBlock := fun e => (List.nodup_append.1 k4).2.2 b (by rw [← e]; simp) b (List.mem_append_right _ hb) rfl
    rw [hg.block b (by simp; omega) hne, Below.heap_alloc w1 o b (by omega), f4.block b hlt]
  · obtain ⟨Fv, f1, _, f3, f4⟩ := hv
    refine ⟨Fv, hR.stab f1 (fun b hb => ?_)⟩
    have hlt := hR.lt f1 b hb
    have hge := f3 b hb
    have hne : some b ≠ vo.ownBlock := fun e => by have := (k1.lt b e.symm).2; omega
    rw [hg.block b (by simp; omega) hne, Below.heap_alloc w1 o b hlt]
end
end Go.Proofs.Ytokhogdocaeelaa
