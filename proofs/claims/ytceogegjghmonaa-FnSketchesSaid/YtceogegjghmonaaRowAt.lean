/- A row of flat rows: an element is stored into one of them, or appended to it. Plain theorems about worlds. -/
import Derived.Test.YtceogegjghmonaaNest
namespace Go.Proofs.Ytceogegjghmonaa
set_option linter.unusedVariables false
open Go.RowKit

theorem set_self {α : Type} {l : List α} {k : Nat} {c : α} (h : l[k]? = some c) : l.set k c = l := by
  refine List.ext_getElem? (fun j => ?_)
  rw [List.getElem?_set]
  split
  · rename_i e
    subst e
    split
    · exact h.symm
    · rename_i hk
      exact absurd (List.getElem?_eq_some_iff.1 h).1 hk
  · rfl
/-- As NRow, the blocks of a set Q in the place of those from B on. -/
def NRQ {α : Type} (T : TypeId) (R : FRel α) (Q : Nat → Prop) (w : World) (v : Value) (n : Nat) (xs : List α) : Prop :=
  ∃ cells F, w.ownsRow 0 T 1 v n cells ∧ AllR R w cells xs F ∧ (v.ownBlock.toList ++ F).Nodup ∧ ∀ b, b ∈ v.ownBlock.toList ++ F → Q b
theorem NRow.nrq {α : Type} {T : TypeId} {R : FRel α} {B : Nat} {Q : Nat → Prop} {w : World} {v : Value} {n : Nat} {xs : List α} (hR : Good R) (h : NRow T R B w v n xs []) (hQ : ∀ b, B ≤ b → b < w.heap.size → Q b) : NRQ T R Q w v n xs := by
  obtain ⟨cells, F, k1, k2, k3, k4⟩ := h.open_
  refine ⟨cells, F, k1, k2, k3, fun b hb => hQ b (k4 b hb) ?_⟩
  rcases List.mem_append.1 hb with hb | hb
  · exact (k1.lt b (by simpa using hb)).2
  · exact k2.lt hR b hb
theorem NRQ.nrow {α : Type} {T : TypeId} {R : FRel α} {B : Nat} {Q : Nat → Prop} {w : World} {v : Value} {n : Nat} {xs : List α} (h : NRQ T R Q w v n xs) (hQ : ∀ b, Q b → B ≤ b) : NRow T R B w v n xs [] := by
  obtain ⟨cells, F, k1, k2, k3, k4⟩ := h
  exact ⟨cells, F, by simpa using k1, k2, k3, fun b hb => hQ b (k4 b hb)⟩
theorem NRQ.below {α : Type} {T : TypeId} {R : FRel α} {Q : Nat → Prop} {w w' : World} {v : Value} {n : Nat} {xs : List α} (hR : Good R) (h : NRQ T R Q w v n xs) (hb : Below w.heap.size w w') : NRQ T R Q w' v n xs := by
  obtain ⟨cells, F, h1, h2, h3, h4⟩ := h
  exact ⟨cells, F, ownsRow_at h1 (fun b hb' => hb.block b (h1.lt b (by simpa using hb')).2), h2.stab hR (fun b hb' => hb.block b (h2.lt hR b hb')), h3, h4⟩
/-- The blocks of Q alone may have turned. -/
structure KeepQ (Q : Nat → Prop) (w w' : World) : Prop where
  os : w'.os = w.os
  tape : w'.tape = w.tape
  output : w'.output = w.output
  size : w.heap.size ≤ w'.heap.size
  block : ∀ k, k < w.heap.size → ¬ Q k → w'.heap[k]? = w.heap[k]?
theorem KeepQ.refl (Q : Nat → Prop) (w : World) : KeepQ Q w w := ⟨rfl, rfl, rfl, Nat.le_refl _, fun _ _ _ => rfl⟩
theorem KeepQ.trans {Q : Nat → Prop} {a b c : World} (h : KeepQ Q a b) (k : KeepQ Q b c) : KeepQ Q a c :=
  ⟨k.os.trans h.os, k.tape.trans h.tape, k.output.trans h.output, Nat.le_trans h.size k.size, fun i hi hn => (k.block i (Nat.lt_of_lt_of_le hi h.size) hn).trans (h.block i hi hn)⟩
theorem KeepQ.set {Q : Nat → Prop} {a b : World} (h : KeepQ Q a b) {p : Addr} (hp : Q p.block) (u : Value) : KeepQ Q a (b.setCell p u) :=
  h.trans ⟨rfl, rfl, rfl, by simp [World.setCell], fun k _ hn => Below.heap_setCell _ _ _ _ (fun e => hn (by subst e; exact hp))⟩
theorem KeepQ.grow {Q : Nat → Prop} {a b c : World} {v : Value} {o : Obj} (h : KeepQ Q a b) (hg : (b.alloc o).grownBy c v.ownBlock) (hv : ∀ k, v.ownBlock = some k → Q k) : KeepQ Q a c := by
  have hs := hg.size
  have ho : (b.alloc o).heap.size = b.heap.size + 1 := by simp
  refine h.trans ⟨hg.os, hg.tape, hg.output, by omega, fun k hk hn => ?_⟩
  rw [hg.block k (by omega) (fun e => hn (hv k e.symm)), Below.heap_alloc b o k hk]
theorem KeepQ.below {Q : Nat → Prop} {B : Nat} {w0 a b : World} (h : KeepQ Q a b) (hB : ∀ k, k < B → ¬ Q k) (hs : B ≤ a.heap.size) (hb : Below B w0 a) : Below B w0 b :=
  hb.trans ⟨h.os, h.tape, h.output, h.size, fun k hk => h.block k (by omega) (hB k hk)⟩
theorem KeepQ.drewN {Q : Nat → Prop} {a b : World} (h : KeepQ Q a b) (n : Nat) : KeepQ Q a (b.drewN n) := ⟨h.os, h.tape, h.output, h.size, h.block⟩
theorem NRQ.rowAtB {T E : TypeId} {Q : Nat → Prop} {w : World} {g n cap k : Nat} {xs : List (List UInt8)} {x : List UInt8} (h : NRQ T (Own E FB) Q w (.slice (some ⟨g, 0, none⟩) n cap) n xs) (hx : xs[k]? = some x) :
    ∃ u, w.cell? ⟨g, k, none⟩ = some u ∧ w.frozen? ⟨g, k, none⟩ = false ∧ g < w.heap.size ∧ w.ownsRow 0 E 1 u x.length (x.map fun x => Value.int .u8 (x.toNat : Int)) ∧ (∀ b, u.ownBlock = some b → Q b ∧ b ≠ g) ∧ Q g ∧
      (∀ (o : Obj) (w2 : World) (c' : Value) (y : UInt8), (∀ b, w.heap.size ≤ b → Q b) → w2.ownsRow 0 E 1 c' (x.length + 1) (x.map (fun x => Value.int .u8 (x.toNat : Int)) ++ [Value.int .u8 (y.toNat : Int)]) → (w.alloc o).grownBy w2 u.ownBlock → (c'.ownBlock = u.ownBlock ∨ c'.ownBlock = some (w.alloc o).heap.size) →
        NRQ T (Own E FB) Q (w2.setCell ⟨g, k, none⟩ c') (.slice (some ⟨g, 0, none⟩) n cap) n (xs.set k (x ++ [y]))) ∧
      (∀ (b : Nat) (j : Nat) (y : UInt8), u.ownBlock = some b → NRQ T (Own E FB) Q (w.setCell ⟨b, j, none⟩ (Value.int .u8 (y.toNat : Int))) (.slice (some ⟨g, 0, none⟩) n cap) n (xs.set k (x.set j y))) := by
  obtain ⟨cells, F, k1, k2, k3, k4⟩ := h
  obtain ⟨u, G1, G2, G3, hu, rfl, a1, a2, a3⟩ := k2.split hx
  have hg : g < w.heap.size := (k1.lt g rfl).2
  have hkl : k < xs.length := (List.getElem?_eq_some_iff.1 hx).1
  have hkc : k < cells.length := (List.getElem?_eq_some_iff.1 hu).1
  have hnl := k1.1
  have hcell := k1.cellAt k (by omega)
  obtain ⟨o2, rfl⟩ := Own_flatB.1 a2
  have k3' := List.nodup_append.1 k3
  have hmem : ∀ b, u.ownBlock = some b → b ∈ G1 ++ (u.ownBlock.toList ++ G3) := fun b hb => List.mem_append_right _ (List.mem_append_left _ (by simpa using hb))
  have hgF : ∀ b, b ∈ G1 ++ (u.ownBlock.toList ++ G3) → b ≠ g := fun b hb e => k3'.2.2 g (by simp [Value.ownBlock]) b hb e.symm
  have hlt : ∀ b, b ∈ G1 ++ (u.ownBlock.toList ++ G3) → b < w.heap.size := fun b hb => k2.lt (Own_good FB_good) b hb
  have kn := List.nodup_append.1 k3'.2.1
  have kn2 := List.nodup_append.1 kn.2.1
  have ne1 : ∀ b, b ∈ G1 → some b ≠ u.ownBlock := fun b hb e => kn.2.2 b hb b (List.mem_append_left _ (by rw [← e]; simp)) rfl
  have ne3 : ∀ b, b ∈ G3 → some b ≠ u.ownBlock := fun b hb e => kn2.2.2 b (by rw [← e]; simp) b hb rfl
  have hGood := Own_good (E := E) FB_good
  refine ⟨u, hcell.trans hu, k1.frozenAt k, hg, o2, fun b hb => ⟨k4 b (List.mem_append_right _ (hmem b hb)), hgF b (hmem b hb)⟩, k4 g (by simp [Value.ownBlock]), fun o w2 c' y hB hown hgr hat => ?_, fun b j y hb => ?_⟩
  · have hsz := hgr.size
    have hsz1 : (w.alloc o).heap.size = w.heap.size + 1 := by simp
    have keep : ∀ b, b < w.heap.size → some b ≠ u.ownBlock → w2.heap[b]? = w.heap[b]? := fun b hb hne => (hgr.block b (by omega) hne).trans (Below.heap_alloc w o b hb)
    have hgu : some g ≠ u.ownBlock := fun e => hgF g (hmem g e.symm) rfl
    have hc' : ∀ b, c'.ownBlock = some b → b ≠ g ∧ b ∉ G1 ∧ b ∉ G3 ∧ Q b := by
      intro b hb
      rcases hat with e | e
      · rw [e] at hb
        exact ⟨hgF b (hmem b hb), fun h1 => ne1 b h1 hb.symm, fun h3 => ne3 b h3 hb.symm, k4 b (List.mem_append_right _ (hmem b hb))⟩
      · rw [e, hsz1] at hb
        injection hb with hb
        refine ⟨by omega, fun h1 => ?_, fun h3 => ?_, hB b (by omega)⟩
        · have := hlt b (List.mem_append_left _ h1); omega
        · have := hlt b (List.mem_append_right _ (List.mem_append_right _ h3)); omega
    have kw : w2.ownsRow 0 T 1 (.slice (some ⟨g, 0, none⟩) n cap) n cells := ownsRow_at k1 (fun b hb => by simp [Value.ownBlock] at hb; subst hb; exact keep b hg hgu)
    have st := (kw.stored k c').1
    have far : ∀ b, b ≠ g → (w2.setCell ⟨g, k, none⟩ c').heap[b]? = w2.heap[b]? := fun b hne => Below.heap_setCell _ _ _ _ hne
    have b1 := a1.stab (w' := w2.setCell ⟨g, k, none⟩ c') hGood (fun b hb => (far b (hgF b (List.mem_append_left _ hb))).trans (keep b (hlt b (List.mem_append_left _ hb)) (ne1 b hb)))
    have b3 := a3.stab (w' := w2.setCell ⟨g, k, none⟩ c') hGood (fun b hb => (far b (hgF b (List.mem_append_right _ (List.mem_append_right _ hb)))).trans (keep b (hlt b (List.mem_append_right _ (List.mem_append_right _ hb))) (ne3 b hb)))
    have hown' : w2.ownsRow 0 E 1 c' (x ++ [y]).length ((x ++ [y]).map fun x => Value.int .u8 (x.toNat : Int)) := by simpa using hown
    have b2 : Own E FB (w2.setCell ⟨g, k, none⟩ c') c' (x ++ [y]) c'.ownBlock.toList := Own_flatB.2 ⟨ownsRow_at hown' (fun b hb => far b (hc' b (by simpa using hb)).1), rfl⟩
    refine ⟨cells.set k c', G1 ++ (c'.ownBlock.toList ++ G3), st, AllR.set hkl hkc b1 b2 b3, ?_, fun b hb => ?_⟩
    · refine List.nodup_append.2 ⟨ownBlock_nodup _, List.nodup_append.2 ⟨kn.1, List.nodup_append.2 ⟨ownBlock_nodup _, kn2.2.1, fun a ha b hb e => ?_⟩, fun a ha b hb e => ?_⟩, fun a ha b hb e => ?_⟩
      · subst e; exact (hc' a (by simpa using ha)).2.2.1 hb
      · subst e
        rcases List.mem_append.1 hb with hb | hb
        · exact (hc' a (by simpa using hb)).2.1 ha
        · exact kn.2.2 a ha a (List.mem_append_right _ hb) rfl
      · subst e
        simp [Value.ownBlock] at ha
        subst ha
        rcases List.mem_append.1 hb with hb | hb
        · exact hgF _ (List.mem_append_left _ hb) rfl
        · rcases List.mem_append.1 hb with hb | hb
          · exact (hc' _ (by simpa using hb)).1 rfl
          · exact hgF _ (List.mem_append_right _ (List.mem_append_right _ hb)) rfl
    · rcases List.mem_append.1 hb with hb | hb
      · exact k4 b (List.mem_append_left _ hb)
      · rcases List.mem_append.1 hb with hb | hb
        · exact k4 b (List.mem_append_right _ (List.mem_append_left _ hb))
        · rcases List.mem_append.1 hb with hb | hb
          · exact (hc' b (by simpa using hb)).2.2.2
          · exact k4 b (List.mem_append_right _ (List.mem_append_right _ (List.mem_append_right _ hb)))
  · have hbg := hgF b (hmem b hb)
    have hform : ∃ cc, u = .slice (some ⟨b, 0, none⟩) x.length cc := by
      rcases o2.2 with ⟨rfl, _⟩ | ⟨g', cc, cur, rfl, _⟩
      · simp [Value.ownBlock] at hb
      · simp [Value.ownBlock] at hb; subst hb; exact ⟨cc, rfl⟩
    obtain ⟨cc, rfl⟩ := hform
    have far : ∀ b', b' ≠ b → (w.setCell ⟨b, j, none⟩ (Value.int .u8 (y.toNat : Int))).heap[b']? = w.heap[b']? := fun b' hne => Below.heap_setCell _ _ _ _ hne
    have st := (o2.stored j (Value.int .u8 (y.toNat : Int))).1
    have hgb : g ≠ b := fun e => hbg e.symm
    have kw := ownsRow_at (w' := w.setCell ⟨b, j, none⟩ (Value.int .u8 (y.toNat : Int))) k1 (fun b' hb' => by simp [Value.ownBlock] at hb'; subst hb'; exact far _ hgb)
    have b1 := a1.stab (w' := w.setCell ⟨b, j, none⟩ (Value.int .u8 (y.toNat : Int))) hGood (fun b' hb' => far b' (fun e => ne1 b' hb' (by rw [e, hb])))
    have b3 := a3.stab (w' := w.setCell ⟨b, j, none⟩ (Value.int .u8 (y.toNat : Int))) hGood (fun b' hb' => far b' (fun e => ne3 b' hb' (by rw [e, hb])))
    have b2 : Own E FB (w.setCell ⟨b, j, none⟩ (Value.int .u8 (y.toNat : Int))) (.slice (some ⟨b, 0, none⟩) x.length cc) (x.set j y) (Value.slice (some ⟨b, 0, none⟩) x.length cc).ownBlock.toList := by
      refine Own_flatB.2 ⟨?_, rfl⟩
      rw [List.length_set, List.map_set]
      exact st
    refine ⟨cells, _, kw, ?_, k3, k4⟩
    have := AllR.set hkl hkc b1 b2 b3
    rwa [set_self hu] at this
theorem NRQ.rowAtI {T E : TypeId} {Q : Nat → Prop} {w : World} {g n cap k : Nat} {xs : List (List Int)} {x : List Int} (h : NRQ T (Own E FI) Q w (.slice (some ⟨g, 0, none⟩) n cap) n xs) (hx : xs[k]? = some x) :
    ∃ u, w.cell? ⟨g, k, none⟩ = some u ∧ w.frozen? ⟨g, k, none⟩ = false ∧ g < w.heap.size ∧ w.ownsRow 0 E 1 u x.length (x.map fun x => Value.int .i64 x) ∧ (∀ b, u.ownBlock = some b → Q b ∧ b ≠ g) ∧ Q g ∧
      (∀ (o : Obj) (w2 : World) (c' : Value) (y : Int), (∀ b, w.heap.size ≤ b → Q b) → w2.ownsRow 0 E 1 c' (x.length + 1) (x.map (fun x => Value.int .i64 x) ++ [Value.int .i64 y]) → (w.alloc o).grownBy w2 u.ownBlock → (c'.ownBlock = u.ownBlock ∨ c'.ownBlock = some (w.alloc o).heap.size) →
        NRQ T (Own E FI) Q (w2.setCell ⟨g, k, none⟩ c') (.slice (some ⟨g, 0, none⟩) n cap) n (xs.set k (x ++ [y]))) ∧
      (∀ (b : Nat) (j : Nat) (y : Int), u.ownBlock = some b → NRQ T (Own E FI) Q (w.setCell ⟨b, j, none⟩ (Value.int .i64 y)) (.slice (some ⟨g, 0, none⟩) n cap) n (xs.set k (x.set j y))) := by
  obtain ⟨cells, F, k1, k2, k3, k4⟩ := h
  obtain ⟨u, G1, G2, G3, hu, rfl, a1, a2, a3⟩ := k2.split hx
  have hg : g < w.heap.size := (k1.lt g rfl).2
  have hkl : k < xs.length := (List.getElem?_eq_some_iff.1 hx).1
  have hkc : k < cells.length := (List.getElem?_eq_some_iff.1 hu).1
  have hnl := k1.1
  have hcell := k1.cellAt k (by omega)
  obtain ⟨o2, rfl⟩ := Own_flatI.1 a2
  have k3' := List.nodup_append.1 k3
  have hmem : ∀ b, u.ownBlock = some b → b ∈ G1 ++ (u.ownBlock.toList ++ G3) := fun b hb => List.mem_append_right _ (List.mem_append_left _ (by simpa using hb))
  have hgF : ∀ b, b ∈ G1 ++ (u.ownBlock.toList ++ G3) → b ≠ g := fun b hb e => k3'.2.2 g (by simp [Value.ownBlock]) b hb e.symm
  have hlt : ∀ b, b ∈ G1 ++ (u.ownBlock.toList ++ G3) → b < w.heap.size := fun b hb => k2.lt (Own_good FI_good) b hb
  have kn := List.nodup_append.1 k3'.2.1
  have kn2 := List.nodup_append.1 kn.2.1
  have ne1 : ∀ b, b ∈ G1 → some b ≠ u.ownBlock := fun b hb e => kn.2.2 b hb b (List.mem_append_left _ (by rw [← e]; simp)) rfl
  have ne3 : ∀ b, b ∈ G3 → some b ≠ u.ownBlock := fun b hb e => kn2.2.2 b (by rw [← e]; simp) b hb rfl
  have hGood := Own_good (E := E) FI_good
  refine ⟨u, hcell.trans hu, k1.frozenAt k, hg, o2, fun b hb => ⟨k4 b (List.mem_append_right _ (hmem b hb)), hgF b (hmem b hb)⟩, k4 g (by simp [Value.ownBlock]), fun o w2 c' y hB hown hgr hat => ?_, fun b j y hb => ?_⟩
  · have hsz := hgr.size
    have hsz1 : (w.alloc o).heap.size = w.heap.size + 1 := by simp
    have keep : ∀ b, b < w.heap.size → some b ≠ u.ownBlock → w2.heap[b]? = w.heap[b]? := fun b hb hne => (hgr.block b (by omega) hne).trans (Below.heap_alloc w o b hb)
    have hgu : some g ≠ u.ownBlock := fun e => hgF g (hmem g e.symm) rfl
    have hc' : ∀ b, c'.ownBlock = some b → b ≠ g ∧ b ∉ G1 ∧ b ∉ G3 ∧ Q b := by
      intro b hb
      rcases hat with e | e
      · rw [e] at hb
        exact ⟨hgF b (hmem b hb), fun h1 => ne1 b h1 hb.symm, fun h3 => ne3 b h3 hb.symm, k4 b (List.mem_append_right _ (hmem b hb))⟩
      · rw [e, hsz1] at hb
        injection hb with hb
        refine ⟨by omega, fun h1 => ?_, fun h3 => ?_, hB b (by omega)⟩
        · have := hlt b (List.mem_append_left _ h1); omega
        · have := hlt b (List.mem_append_right _ (List.mem_append_right _ h3)); omega
    have kw : w2.ownsRow 0 T 1 (.slice (some ⟨g, 0, none⟩) n cap) n cells := ownsRow_at k1 (fun b hb => by simp [Value.ownBlock] at hb; subst hb; exact keep b hg hgu)
    have st := (kw.stored k c').1
    have far : ∀ b, b ≠ g → (w2.setCell ⟨g, k, none⟩ c').heap[b]? = w2.heap[b]? := fun b hne => Below.heap_setCell _ _ _ _ hne
    have b1 := a1.stab (w' := w2.setCell ⟨g, k, none⟩ c') hGood (fun b hb => (far b (hgF b (List.mem_append_left _ hb))).trans (keep b (hlt b (List.mem_append_left _ hb)) (ne1 b hb)))
    have b3 := a3.stab (w' := w2.setCell ⟨g, k, none⟩ c') hGood (fun b hb => (far b (hgF b (List.mem_append_right _ (List.mem_append_right _ hb)))).trans (keep b (hlt b (List.mem_append_right _ (List.mem_append_right _ hb))) (ne3 b hb)))
    have hown' : w2.ownsRow 0 E 1 c' (x ++ [y]).length ((x ++ [y]).map fun x => Value.int .i64 x) := by simpa using hown
    have b2 : Own E FI (w2.setCell ⟨g, k, none⟩ c') c' (x ++ [y]) c'.ownBlock.toList := Own_flatI.2 ⟨ownsRow_at hown' (fun b hb => far b (hc' b (by simpa using hb)).1), rfl⟩
    refine ⟨cells.set k c', G1 ++ (c'.ownBlock.toList ++ G3), st, AllR.set hkl hkc b1 b2 b3, ?_, fun b hb => ?_⟩
    · refine List.nodup_append.2 ⟨ownBlock_nodup _, List.nodup_append.2 ⟨kn.1, List.nodup_append.2 ⟨ownBlock_nodup _, kn2.2.1, fun a ha b hb e => ?_⟩, fun a ha b hb e => ?_⟩, fun a ha b hb e => ?_⟩
      · subst e; exact (hc' a (by simpa using ha)).2.2.1 hb
      · subst e
        rcases List.mem_append.1 hb with hb | hb
        · exact (hc' a (by simpa using hb)).2.1 ha
        · exact kn.2.2 a ha a (List.mem_append_right _ hb) rfl
      · subst e
        simp [Value.ownBlock] at ha
        subst ha
        rcases List.mem_append.1 hb with hb | hb
        · exact hgF _ (List.mem_append_left _ hb) rfl
        · rcases List.mem_append.1 hb with hb | hb
          · exact (hc' _ (by simpa using hb)).1 rfl
          · exact hgF _ (List.mem_append_right _ (List.mem_append_right _ hb)) rfl
    · rcases List.mem_append.1 hb with hb | hb
      · exact k4 b (List.mem_append_left _ hb)
      · rcases List.mem_append.1 hb with hb | hb
        · exact k4 b (List.mem_append_right _ (List.mem_append_left _ hb))
        · rcases List.mem_append.1 hb with hb | hb
          · exact (hc' b (by simpa using hb)).2.2.2
          · exact k4 b (List.mem_append_right _ (List.mem_append_right _ (List.mem_append_right _ hb)))
  · have hbg := hgF b (hmem b hb)
    have hform : ∃ cc, u = .slice (some ⟨b, 0, none⟩) x.length cc := by
      rcases o2.2 with ⟨rfl, _⟩ | ⟨g', cc, cur, rfl, _⟩
      · simp [Value.ownBlock] at hb
      · simp [Value.ownBlock] at hb; subst hb; exact ⟨cc, rfl⟩
    obtain ⟨cc, rfl⟩ := hform
    have far : ∀ b', b' ≠ b → (w.setCell ⟨b, j, none⟩ (Value.int .i64 y)).heap[b']? = w.heap[b']? := fun b' hne => Below.heap_setCell _ _ _ _ hne
    have st := (o2.stored j (Value.int .i64 y)).1
    have hgb : g ≠ b := fun e => hbg e.symm
    have kw := ownsRow_at (w' := w.setCell ⟨b, j, none⟩ (Value.int .i64 y)) k1 (fun b' hb' => by simp [Value.ownBlock] at hb'; subst hb'; exact far _ hgb)
    have b1 := a1.stab (w' := w.setCell ⟨b, j, none⟩ (Value.int .i64 y)) hGood (fun b' hb' => far b' (fun e => ne1 b' hb' (by rw [e, hb])))
    have b3 := a3.stab (w' := w.setCell ⟨b, j, none⟩ (Value.int .i64 y)) hGood (fun b' hb' => far b' (fun e => ne3 b' hb' (by rw [e, hb])))
    have b2 : Own E FI (w.setCell ⟨b, j, none⟩ (Value.int .i64 y)) (.slice (some ⟨b, 0, none⟩) x.length cc) (x.set j y) (Value.slice (some ⟨b, 0, none⟩) x.length cc).ownBlock.toList := by
      refine Own_flatI.2 ⟨?_, rfl⟩
      rw [List.length_set, List.map_set]
      exact st
    refine ⟨cells, _, kw, ?_, k3, k4⟩
    have := AllR.set hkl hkc b1 b2 b3
    rwa [set_self hu] at this
end Go.Proofs.Ytceogegjghmonaa
