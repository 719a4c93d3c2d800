/- Rows whose elements own blocks of their own: built by appends or by stores, read, changed. Plain theorems about worlds. -/
import Derived.Test.YtokhogdocaeelaaRow
namespace Go.Proofs.Ytokhogdocaeelaa
set_option linter.unusedVariables false
open Go.RowKit

/-- v holds n cells: those of the elements xs (each owning blocks of its own), then the cells rest. All its blocks differ and lie from B on. -/
def NRow {α : Type} (E : TypeId) (R : FRel α) (B : Nat) (w : World) (v : Value) (n : Nat) (xs : List α) (rest : List Value) : Prop :=
  ∃ cells F, w.ownsRow 0 E 1 v n (cells ++ rest) ∧ AllR R w cells xs F ∧ (v.ownBlock.toList ++ F).Nodup ∧ ∀ b, b ∈ v.ownBlock.toList ++ F → B ≤ b

section
variable {α : Type} {E : TypeId} {R : FRel α} {B : Nat} {w w' : World} {v : Value} {n : Nat} {xs : List α} {rest : List Value}

theorem NRow.below (hR : Good R) (h : NRow E R B w v n xs rest) (hb : Below w.heap.size w w') : NRow E R B w' v n xs rest := by
  obtain ⟨cells, F, h1, h2, h3, h4⟩ := h
  exact ⟨cells, F, ownsRow_at h1 (fun b hb' => hb.block b (h1.lt b (by simpa using hb')).2), h2.stab hR (fun b hb' => hb.block b (h2.lt hR b hb')), h3, h4⟩

theorem NRow.len (h : NRow E R B w v n xs rest) : n = xs.length + rest.length := by
  obtain ⟨cells, F, h1, h2, _⟩ := h
  have := h1.1
  rw [List.length_append, h2.len] at this
  omega

theorem NRow.lt (hR : Good R) (h : NRow E R B w v n xs rest) : ∀ b, v.ownBlock = some b → B ≤ b ∧ b < w.heap.size := by
  obtain ⟨cells, F, h1, _, _, h4⟩ := h
  exact fun b hb => ⟨h4 b (List.mem_append_left _ (by simpa using hb)), (h1.lt b hb).2⟩

theorem NRow_nil (w : World) : NRow E R B w (.slice none 0 0) 0 ([] : List α) [] :=
  ⟨[], [], World.ownsRow_nil w 0 E 1, rfl, by simp [Value.ownBlock], by simp [Value.ownBlock]⟩

theorem NRow_lit (w : World) (cs : Array Value) (hB : B ≤ w.heap.size) (h : cs.size ≤ maxLen) : NRow E R B (w.alloc (.cells cs E)) (.slice (some ⟨w.heap.size, 0, none⟩) cs.size cs.size) cs.size ([] : List α) cs.toList :=
  ⟨[], [], by simpa using World.ownsRow_lit w cs cs.size (Nat.zero_le _) h (by simp), rfl, by simp [Value.ownBlock], by simp [Value.ownBlock]; exact hB⟩

theorem NRow_made (w : World) (z : Value) (n : Nat) (hB : B ≤ w.heap.size) (h : n ≤ maxLen) : NRow E R B (w.alloc (.cells (madeCells #[z] n) E)) (.slice (some ⟨w.heap.size, 0, none⟩) n n) n ([] : List α) (List.replicate n z) :=
  ⟨[], [], by simpa using own_made w z n h, rfl, by simp [Value.ownBlock], by simp [Value.ownBlock]; exact hB⟩

/-- One element more, by append: u was made since w. -/
theorem NRow.app (hR : Good R) {w1 w2 : World} {o : Obj} {u v' : Value} {x : α} {cells : List Value} {F : List Nat} (k1 : w.ownsRow 0 E 1 v n cells) (k2 : AllR R w cells xs F) (k3 : (v.ownBlock.toList ++ F).Nodup) (k4 : ∀ b, b ∈ v.ownBlock.toList ++ F → B ≤ b)
    (hu : Fresh R w w1 u x) (hB : B ≤ w.heap.size) (h1 : w2.ownsRow 0 E 1 v' (n + 1) (cells ++ [u])) (hg : (w1.alloc o).grownBy w2 v.ownBlock) (hat : v'.ownBlock = v.ownBlock ∨ v'.ownBlock = some (w1.alloc o).heap.size) :
    NRow E R B w2 v' (n + 1) (xs ++ [x]) [] := by
  obtain ⟨F1, f1, f2, f3, f4⟩ := hu
  have hvlt : ∀ b, v.ownBlock = some b → b < w.heap.size := fun b hb => (k1.lt b hb).2
  have hFlt : ∀ b, b ∈ F → b < w.heap.size := fun b hb => k2.lt hR b hb
  have hF1lt : ∀ b, b ∈ F1 → b < w1.heap.size := fun b hb => hR.lt f1 b hb
  have hs := f4.size
  have hvF : ∀ b, v.ownBlock = some b → b ∉ F := fun b hb hbF => by
    rw [List.nodup_append] at k3
    exact k3.2.2 b (by simpa using hb) b hbF rfl
  have keep : ∀ b, b < w1.heap.size → some b ≠ v.ownBlock → w2.heap[b]? = w1.heap[b]? := fun b hb hne =>
    (hg.block b (by simp; omega) hne).trans (Below.heap_alloc w1 o b hb)
  have kF : AllR R w2 cells xs F := k2.stab hR (fun b hb => (keep b (by have := hFlt b hb; omega) (fun e => hvF b e.symm hb)).trans (f4.block b (hFlt b hb)))
  have kF1 : R w2 u x F1 := hR.stab f1 (fun b hb => keep b (hF1lt b hb) (fun e => by have := hvlt b e.symm; have := f3 b hb; omega))
  have hv' : ∀ b, v'.ownBlock = some b → (b ∉ F ∧ b ∉ F1) ∧ B ≤ b := by
    intro b hb
    rcases hat with e | e
    · rw [e] at hb
      exact ⟨⟨hvF b hb, fun hb1 => by have := hvlt b hb; have := f3 b hb1; omega⟩, k4 b (List.mem_append_left _ (by simpa using hb))⟩
    · rw [e] at hb
      injection hb with hb
      rw [World.size_alloc] at hb
      exact ⟨⟨fun hbF => by have := hFlt b hbF; omega, fun hb1 => by have := hF1lt b hb1; omega⟩, by omega⟩
  refine ⟨cells ++ [u], F ++ F1, by simpa using h1, kF.snoc kF1, ?_, ?_⟩
  · rw [List.nodup_append] at k3 ⊢
    refine ⟨ownBlock_nodup v', List.nodup_append.2 ⟨k3.2.1, f2, fun a ha b hb e => ?_⟩, fun a ha b hb e => ?_⟩
    · subst e
      have := hFlt a ha
      have := f3 a hb
      omega
    · subst e
      have := (hv' a (by simpa using ha)).1
      rcases List.mem_append.1 hb with hb | hb
      · exact this.1 hb
      · exact this.2 hb
  · intro b hb
    rcases List.mem_append.1 hb with hb | hb
    · exact (hv' b (by simpa using hb)).2
    · rcases List.mem_append.1 hb with hb | hb
      · exact k4 b (List.mem_append_right _ hb)
      · exact Nat.le_trans hB (f3 b hb)

theorem NRow.app_below {w0 w1 w2 : World} {o : Obj} (hb : Below B w0 w1) (hB : B ≤ w1.heap.size) (hv : ∀ b, v.ownBlock = some b → B ≤ b) (hg : (w1.alloc o).grownBy w2 v.ownBlock) : Below B w0 w2 :=
  (hb.alloc hB o).grown hg (by simp; omega) (fun k hk => hv k hk)

theorem NRow.open_ (h : NRow E R B w v n xs []) : ∃ cells F, w.ownsRow 0 E 1 v n cells ∧ AllR R w cells xs F ∧ (v.ownBlock.toList ++ F).Nodup ∧ (∀ b, b ∈ v.ownBlock.toList ++ F → B ≤ b) := by
  obtain ⟨cells, F, k1, k2, k3, k4⟩ := h
  exact ⟨cells, F, by simpa using k1, k2, k3, k4⟩

/-- One element more, by a store at its place: u was made since w. -/
theorem NRow.put (hR : Good R) {w1 : World} {g cap : Nat} {u z : Value} {x : α} (h : NRow E R B w (.slice (some ⟨g, 0, none⟩) n cap) n xs (z :: rest)) (hu : Fresh R w w1 u x) (hB : B ≤ w.heap.size) :
    NRow E R B (w1.setCell ⟨g, xs.length, none⟩ u) (.slice (some ⟨g, 0, none⟩) n cap) n (xs ++ [x]) rest := by
  obtain ⟨cells, F, k1, k2, k3, k4⟩ := h
  obtain ⟨F1, f1, f2, f3, f4⟩ := hu
  have hgl : g < w.heap.size := (k1.lt g rfl).2
  have kw := ownsRow_at (w' := w1) k1 (fun b hb' => f4.block b (k1.lt b (by simpa using hb')).2)
  have hl : cells.length = xs.length := k2.len
  have st := (kw.stored xs.length u).1
  rw [show (cells ++ z :: rest).set xs.length u = (cells ++ [u]) ++ rest by rw [List.set_append, if_neg (by omega), hl, Nat.sub_self]; simp] at st
  have hFlt : ∀ b, b ∈ F → b < w.heap.size := fun b hb => k2.lt hR b hb
  have hgF : g ∉ F := fun hbF => by
    rw [List.nodup_append] at k3
    exact k3.2.2 g (by simp [Value.ownBlock]) g hbF rfl
  have keep : ∀ b, b ≠ g → (w1.setCell ⟨g, xs.length, none⟩ u).heap[b]? = w1.heap[b]? := fun b hne => Below.heap_setCell _ _ _ _ hne
  refine ⟨cells ++ [u], F ++ F1, st, (k2.stab hR (fun b hb => (keep b (fun e => hgF (e ▸ hb))).trans (f4.block b (hFlt b hb)))).snoc (hR.stab f1 (fun b hb => keep b (fun e => by have := f3 b hb; omega))), ?_, ?_⟩
  · rw [List.nodup_append] at k3 ⊢
    refine ⟨k3.1, List.nodup_append.2 ⟨k3.2.1, f2, fun a ha b hb e => ?_⟩, fun a ha b hb e => ?_⟩
    · subst e
      have := hFlt a ha
      have := f3 a hb
      omega
    · subst e
      rcases List.mem_append.1 hb with hb | hb
      · exact k3.2.2 a ha a hb rfl
      · simp [Value.ownBlock] at ha
        subst ha
        have := f3 a hb
        omega
  · intro b hb
    rcases List.mem_append.1 hb with hb | hb
    · exact k4 b (List.mem_append_left _ hb)
    · rcases List.mem_append.1 hb with hb | hb
      · exact k4 b (List.mem_append_right _ hb)
      · exact Nat.le_trans hB (f3 b hb)

/-- An element is replaced by another, made since w. -/
theorem NRow.replace (hR : Good R) {w1 : World} {g cap j : Nat} {u : Value} {x : α} (h : NRow E R B w (.slice (some ⟨g, 0, none⟩) n cap) n xs []) (hu : Fresh R w w1 u x) (hB : B ≤ w.heap.size) (hj : j < xs.length) :
    NRow E R B (w1.setCell ⟨g, j, none⟩ u) (.slice (some ⟨g, 0, none⟩) n cap) n (xs.set j x) [] := by
  obtain ⟨cells, F, k1, k2, k3, k4⟩ := h
  obtain ⟨F1, f1, f2, f3, f4⟩ := hu
  simp only [List.append_nil] at k1
  have hgl : g < w.heap.size := (k1.lt g rfl).2
  have kw := ownsRow_at (w' := w1) k1 (fun b hb' => f4.block b (k1.lt b (by simpa using hb')).2)
  have hl : cells.length = xs.length := k2.len
  have st := (kw.stored j u).1
  obtain ⟨y, hy⟩ : ∃ y, xs[j]? = some y := ⟨_, List.getElem?_eq_getElem hj⟩
  have hFlt : ∀ b, b ∈ F → b < w.heap.size := fun b hb => k2.lt hR b hb
  have hgF : g ∉ F := fun hbF => by
    rw [List.nodup_append] at k3
    exact k3.2.2 g (by simp [Value.ownBlock]) g hbF rfl
  obtain ⟨c, G1, G2, G3, hc, rfl, a1, a2, a3⟩ := k2.split hy
  have keep : ∀ b, b ≠ g → (w1.setCell ⟨g, j, none⟩ u).heap[b]? = w1.heap[b]? := fun b hne => Below.heap_setCell _ _ _ _ hne
  have all : ∀ b, b ∈ G1 ++ (G2 ++ G3) → (w1.setCell ⟨g, j, none⟩ u).heap[b]? = w.heap[b]? := fun b hb => (keep b (fun e => hgF (e ▸ hb))).trans (f4.block b (hFlt b hb))
  have b1 := a1.stab (w' := w1.setCell ⟨g, j, none⟩ u) hR (fun b hb => all b (List.mem_append_left _ hb))
  have b3 := a3.stab (w' := w1.setCell ⟨g, j, none⟩ u) hR (fun b hb => all b (List.mem_append_right _ (List.mem_append_right _ hb)))
  have b2 : R (w1.setCell ⟨g, j, none⟩ u) u x F1 := hR.stab f1 (fun b hb => keep b (fun e => by have := f3 b hb; omega))
  refine ⟨cells.set j u, G1 ++ (F1 ++ G3), by simpa using st, AllR.set hj (by omega) b1 b2 b3, ?_, ?_⟩
  · simp only [List.nodup_append, List.mem_append] at k3 ⊢
    have hlt1 : ∀ b, b ∈ G1 → b < w.heap.size := fun b hb => hFlt b (List.mem_append_left _ hb)
    have hlt3 : ∀ b, b ∈ G3 → b < w.heap.size := fun b hb => hFlt b (List.mem_append_right _ (List.mem_append_right _ hb))
    refine ⟨k3.1, ⟨k3.2.1.1, ⟨f2, k3.2.1.2.1.2.1, fun a ha b hb e => ?_⟩, fun a ha b hb e => ?_⟩, fun a ha b hb e => ?_⟩
    · subst e; have := f3 a ha; have := hlt3 a hb; omega
    · subst e
      rcases hb with hb | hb
      · have := f3 a hb; have := hlt1 a ha; omega
      · exact k3.2.1.2.2 a ha a (.inr hb) rfl
    · subst e
      rcases hb with hb | hb | hb
      · exact k3.2.2 a ha a (.inl hb) rfl
      · simp [Value.ownBlock] at ha
        subst ha
        have := f3 a hb
        omega
      · exact k3.2.2 a ha a (.inr (.inr hb)) rfl
  · intro b hb
    simp only [List.mem_append] at hb k4
    rcases hb with hb | hb | hb | hb
    · exact k4 b (.inl hb)
    · exact k4 b (.inr (.inl hb))
    · exact Nat.le_trans hB (f3 b hb)
    · exact k4 b (.inr (.inr (.inr hb)))

/-- What stands at index j: its cell, that it is not frozen, and what it is. -/
theorem NRow.cell {g cap j : Nat} (h : NRow E R B w (.slice (some ⟨g, 0, none⟩) n cap) n xs rest) (hj : j < n) : ∃ u, w.cell? ⟨g, j, none⟩ = some u ∧ w.frozen? ⟨g, j, none⟩ = false ∧ (∀ x, xs[j]? = some x → ∃ G, R w u x G) := by
  obtain ⟨cells, F, k1, k2, _, _⟩ := h
  have hl := k1.1
  have hc := k1.cellAt j (by omega)
  obtain ⟨u, hu⟩ : ∃ u, (cells ++ rest)[j]? = some u := ⟨_, List.getElem?_eq_getElem (by omega)⟩
  refine ⟨u, hc.trans hu, k1.frozenAt j, fun x hx => ?_⟩
  obtain ⟨c, G, hcc, hr, _⟩ := k2.get hx
  have hjl : j < cells.length := (List.getElem?_eq_some_iff.1 hcc).1
  rw [List.getElem?_append_left hjl, hcc] at hu
  injection hu with e
  subst e
  exact ⟨G, hr⟩

theorem NRow.own (h : NRow E R B w v n xs []) : ∃ F, Own E R w v xs F ∧ F.Nodup ∧ ∀ b, b ∈ F → B ≤ b := by
  have hn := h.len
  obtain ⟨cells, F, k1, k2, k3, k4⟩ := h
  simp only [List.append_nil, List.length_nil, Nat.add_zero] at k1 hn
  subst hn
  exact ⟨v.ownBlock.toList ++ F, ⟨cells, F, k1, k2, rfl⟩, k3, k4⟩

theorem NRow.fresh (h : NRow E R w.heap.size w' v n xs []) (hb : Below w.heap.size w w') : Fresh (Own E R) w w' v xs := by
  obtain ⟨F, h1, h2, h3⟩ := h.own
  exact ⟨F, h1, h2, h3, hb⟩

theorem NRow_of {F : List Nat} (h : Own E R w v xs F) (hF : F.Nodup) (hB : ∀ b, b ∈ F → B ≤ b) : NRow E R B w v xs.length xs [] := by
  obtain ⟨cells, F', k1, k2, rfl⟩ := h
  exact ⟨cells, F', by simpa using k1, k2, hF, hB⟩

theorem Fresh.nrow (h : Fresh (Own E R) w w' v xs) : NRow E R w.heap.size w' v xs.length xs [] := by
  obtain ⟨F, h1, h2, h3, _⟩ := h
  exact NRow_of h1 h2 h3

theorem NRow.form (h : NRow E R B w v n xs rest) : (v = .slice none 0 0 ∧ n = 0) ∨ ∃ g cap, v = .slice (some ⟨g, 0, none⟩) n cap ∧ n ≤ cap ∧ cap ≤ maxLen ∧ B ≤ g ∧ g < w.heap.size := by
  obtain ⟨cells, F, k1, _, _, k4⟩ := h
  have hlt := k1.lt
  rcases k1.2 with hv | ⟨g, cap, cur, rfl, _, _, h1, h2, _⟩
  · exact .inl hv
  · exact .inr ⟨g, cap, rfl, h1, h2, k4 g (by simp [Value.ownBlock]), (hlt g rfl).2⟩

theorem NRow.rd {R' : Rel α} (h : NRow E R B w v n xs []) (hR : ∀ {u x G}, R w u x G → R' w u x) : Rd R' w v xs := by
  obtain ⟨F, h1, _, _⟩ := h.own
  exact h1.rd hR
theorem NRow.setLow (hR : Good R) (h : NRow E R B w v n xs rest) {p : Addr} (hp : p.block < B) (u : Value) : NRow E R B (w.setCell p u) v n xs rest := by
  obtain ⟨cells, F, h1, h2, h3, h4⟩ := h
  exact ⟨cells, F, ownsRow_at h1 (fun b hb => Below.heap_setCell _ _ _ _ (by have := h4 b (List.mem_append_left _ hb); omega)),
    h2.stab hR (fun b hb => Below.heap_setCell _ _ _ _ (by have := h4 b (List.mem_append_right _ hb); omega)), h3, h4⟩
theorem NRow.drew_ (hR : Good R) (h : NRow E R B w v n xs rest) : NRow E R B w.drew v n xs rest := by
  obtain ⟨cells, F, h1, h2, h3, h4⟩ := h
  exact ⟨cells, F, ownsRow_at h1 (fun _ _ => rfl), h2.stab hR (fun _ _ => rfl), h3, h4⟩
theorem grown_drew {w w' : World} {row : Option Nat} (h : w.drew.grownBy w' row) : w.grownBy w' row := ⟨h.os, h.tape, h.output, h.size, h.block⟩
theorem NRow.fresh_ (h : NRow E R B w' v n xs []) (hb : Below w.heap.size w w') (hB : w.heap.size ≤ B) : Fresh (Own E R) w w' v xs := by
  obtain ⟨F, h1, h2, h3⟩ := h.own
  exact ⟨F, h1, h2, fun b hb' => Nat.le_trans hB (h3 b hb'), hb⟩
end

end Go.Proofs.Ytokhogdocaeelaa
