/- A cursor in a box of its own: what the drawing functions leave of the world. Plain theorems about worlds. -/
import Derived.Test.YtokhogdocaeelaaBoxes
import Derived.Test.YtokhogdocaeelaaFlat
import Derived.Test.YtokhogdocaeelaaNest
namespace Go.Proofs.Ytokhogdocaeelaa
set_option linter.unusedVariables false
open Go.RowKit

/-- The cursor's box at block g over the bytes V, in a world that keeps what w0 held. -/
def Cur (t : TypeId) (w0 : World) (V : Value) (g : Nat) (w : World) : Prop := ∃ i h : Int, Box w g t #[V, .int .i64 i, .int .i64 h] ∧ 0 ≤ i ∧ i ≤ 4194304 ∧ Below w0.heap.size w0 w ∧ w0.heap.size ≤ g
theorem Cur.lt {t : TypeId} {w0 : World} {V : Value} {g : Nat} {w : World} (h : Cur t w0 V g w) : g < w.heap.size := by
  obtain ⟨_, _, hb, _⟩ := h
  exact hb.lt
theorem Cur.below {t : TypeId} {w0 : World} {V : Value} {g : Nat} {w : World} (h : Cur t w0 V g w) : Below w0.heap.size w0 w := by
  obtain ⟨_, _, _, _, _, hb, _⟩ := h
  exact hb
theorem Cur.ge {t : TypeId} {w0 : World} {V : Value} {g : Nat} {w : World} (h : Cur t w0 V g w) : w0.heap.size ≤ g := by
  obtain ⟨_, _, _, _, _, _, hb⟩ := h
  exact hb
theorem Cur.step {t : TypeId} {w0 : World} {V : Value} {g : Nat} {w w' : World} (h : Cur t w0 V g w) (hb : Below w.heap.size w w') : Cur t w0 V g w' := by
  have hl := h.lt
  obtain ⟨i, k, b, h0, h1, hw, hg⟩ := h
  exact ⟨i, k, b.below hb hl, h0, h1, hw.trans (hb.mono (by omega)), hg⟩
/-- The box alone may have turned; the heap is as long as it was. -/
def Mid (g : Nat) (w wm : World) : Prop := Chg g (g + 1) w wm ∧ wm.heap.size = w.heap.size
theorem Mid.refl (g : Nat) (w : World) : Mid g w w := ⟨Chg.refl _ _ _, rfl⟩
theorem Mid.below {g B : Nat} {w0 w wm : World} (h : Mid g w wm) (hB : B ≤ g) (hg : g < w.heap.size) (hb : Below B w0 w) : Below B w0 wm := hb.trans (h.1.below hB (by omega))
theorem Chg.mid {g : Nat} {w w' : World} (h : Chg g (g + 1) w w') (hg : g < w.heap.size) : ∃ wm, Mid g w wm ∧ Below w.heap.size wm w' := by
  have hs := h.size
  obtain ⟨o, ho⟩ : ∃ o, w'.heap[g]? = some o := ⟨w'.heap[g]'(by omega), by simp⟩
  refine ⟨{ w' with heap := w.heap.setIfInBounds g o }, ⟨⟨h.os, h.tape, h.output, by simp, fun k hk hn => ?_⟩, by simp⟩, ⟨rfl, rfl, rfl, by simpa using hs, fun k hk => ?_⟩⟩
  · have : g ≠ k := fun e => hn (by subst e; exact ⟨Nat.le_refl _, by omega⟩)
    simp [this]
  · by_cases e : g = k
    · subst e
      simp [hk, ho]
    · have := h.block k hk (fun q => e (by omega))
      simp [e, this]
/-- A value drawn: of blocks of its own, made since w; of what w held the box alone may have turned. -/
def Drew {α : Type} (R : FRel α) (g : Nat) (w w' : World) (v : Value) (x : α) : Prop := ∃ wm, Mid g w wm ∧ Fresh R wm w' v x
theorem Drew.chg {α : Type} {R : FRel α} {g : Nat} {w w' : World} {v : Value} {x : α} (h : Drew R g w w' v x) : Chg g (g + 1) w w' := by
  obtain ⟨wm, hm, hf⟩ := h
  exact hm.1.trans (Chg.of_below hf.below)
theorem Drew_of {α : Type} {R : FRel α} {g : Nat} {w w' : World} {v : Value} {x : α} {F : List Nat} (hg : g < w.heap.size) (hc : Chg g (g + 1) w w') (h1 : R w' v x F) (h2 : F.Nodup) (h3 : ∀ b, b ∈ F → w.heap.size ≤ b) : Drew R g w w' v x := by
  obtain ⟨wm, hm, hb⟩ := hc.mid hg
  exact ⟨wm, hm, F, h1, h2, fun b hb' => by rw [hm.2]; exact h3 b hb', by rw [hm.2]; exact hb⟩
theorem Fresh.drew_ {α : Type} {R : FRel α} {g : Nat} {w w' : World} {v : Value} {x : α} (h : Fresh R w w' v x) : Drew R g w w' v x := ⟨w, Mid.refl g w, h⟩
/-- A row of the call's own from above the box on. -/
theorem NRow.mid {α : Type} {E : TypeId} {R : FRel α} {B g n : Nat} {w w' : World} {v : Value} {xs : List α} {rest : List Value} (hR : Good R) (h : NRow E R B w v n xs rest) (hm : Chg g (g + 1) w w') (hg : g < B) : NRow E R B w' v n xs rest := by
  obtain ⟨cells, F, k1, k2, k3, k4⟩ := h
  have keep : ∀ b, b < w.heap.size → B ≤ b → w'.heap[b]? = w.heap[b]? := fun b hb hB => hm.block b hb (fun q => by omega)
  exact ⟨cells, F, ownsRow_at k1 (fun b hb => keep b (k1.lt b (by simpa using hb)).2 (k4 b (List.mem_append_left _ hb))), k2.stab hR (fun b hb => keep b (k2.lt hR b hb) (k4 b (List.mem_append_right _ hb))), k3, k4⟩
theorem Rd_chg {α : Type} {R : FRel α} {R' : Rel α} (hRR : ∀ {w v x G}, R w v x G → R' w v x) {w w' : World} {g B : Nat} {v : Value} {x : α} {F : List Nat} (hR : Good R) (h : R w v x F) (hF : ∀ b, b ∈ F → B ≤ b) (hm : Chg g (g + 1) w w') (hg : g < B) : R' w' v x :=
  hRR (hR.stab h (fun b hb => hm.block b (hR.lt h b hb) (fun q => by have := hF b hb; omega)))
theorem Row.chg {E : TypeId} {B g n : Nat} {w w' : World} {v : Value} {cells : List Value} (h : Row E B w v n cells) (hm : Chg g (g + 1) w w') (hg : g < B) : Row E B w' v n cells :=
  ⟨ownsRow_at h.1 (fun b hb => hm.block b (h.1.lt b (by simpa using hb)).2 (fun q => by have := h.2 b (by simpa using hb); omega)), h.2⟩
theorem Cur.grow {t : TypeId} {w0 w1 w2 : World} {V v : Value} {g : Nat} {o : Obj} (h : Cur t w0 V g w1) (hg : (w1.alloc o).grownBy w2 v.ownBlock) (hv : ∀ b, v.ownBlock = some b → g < b) : Cur t w0 V g w2 := by
  have hl := h.lt
  obtain ⟨i, k, b, h0, h1, hw, hge⟩ := h
  refine ⟨i, k, Box.grown (b.alloc o) hg (fun e => by have := hv g e.symm; omega), h0, h1, NRow.app_below (w1 := w1) hw (by omega) (fun q hq => by have := hv q hq; omega) hg, hge⟩
theorem Chg.grow {w w1 w2 : World} {v : Value} {g : Nat} {o : Obj} (h : Chg g (g + 1) w w1) (hg : (w1.alloc o).grownBy w2 v.ownBlock) (hv : ∀ b, v.ownBlock = some b → w.heap.size ≤ b) : Chg g (g + 1) w w2 := by
  have hs := h.size
  have hs2 := hg.size
  have ho : (w1.alloc o).heap.size = w1.heap.size + 1 := by simp
  refine ⟨hg.os.trans h.os, hg.tape.trans h.tape, hg.output.trans h.output, by omega, fun k hk hn => ?_⟩
  rw [hg.block k (by omega) (fun e => by have := hv k e.symm; omega), Below.heap_alloc w1 o k (by omega)]
  exact h.block k hk hn
theorem Row.app_ {E : TypeId} {B n m : Nat} {w1 w2 : World} {v v' : Value} {o : Obj} {cells news : List Value} (h : Row E B w1 v n cells) (hB : B ≤ w1.heap.size) (h1 : w2.ownsRow 0 E 1 v' (n + m) (cells ++ news)) (hat : v'.ownBlock = v.ownBlock ∨ v'.ownBlock = some (w1.alloc o).heap.size) : Row E B w2 v' (n + m) (cells ++ news) :=
  ⟨h1, fun b hb => by
    rcases hat with e | e
    · exact h.2 b (e ▸ hb)
    · rw [e] at hb
      simp at hb
      omega⟩
theorem Row.drewB {E : TypeId} {g n : Nat} {w w' : World} {v : Value} {cells : List Value} {xs : List UInt8} (h : Row E w.heap.size w' v n cells) (hg : g < w.heap.size) (hc : Chg g (g + 1) w w') (he : cells = xs.map fun x => Value.int .u8 (x.toNat : Int)) : Drew (Own E FB) g w w' v xs := by
  subst he
  have hl : n = xs.length := by simpa using h.1.1.symm
  subst hl
  exact Drew_of hg hc (Own_flatB.2 ⟨h.1, rfl⟩) (ownBlock_nodup v) (fun b hb => h.2 b (by simpa using hb))
theorem Row.drewI {E : TypeId} {g n : Nat} {w w' : World} {v : Value} {cells : List Value} {xs : List Int} (h : Row E w.heap.size w' v n cells) (hg : g < w.heap.size) (hc : Chg g (g + 1) w w') (he : cells = xs.map fun x => Value.int .i64 x) : Drew (Own E FI) g w w' v xs := by
  subst he
  have hl : n = xs.length := by simpa using h.1.1.symm
  subst hl
  exact Drew_of hg hc (Own_flatI.2 ⟨h.1, rfl⟩) (ownBlock_nodup v) (fun b hb => h.2 b (by simpa using hb))
theorem NRow.drewR {α : Type} {E : TypeId} {R : FRel α} {g n : Nat} {w w' : World} {v : Value} {xs : List α} (h : NRow E R w.heap.size w' v n xs []) (hg : g < w.heap.size) (hc : Chg g (g + 1) w w') : Drew (Own E R) g w w' v xs := by
  obtain ⟨F, h1, h2, h3⟩ := h.own
  exact Drew_of hg hc h1 h2 h3
theorem u8_of (r : Int) (h : 0 ≤ r ∧ r ≤ 255) : (((UInt8.ofNat r.toNat).toNat : Nat) : Int) = r := by
  simp
  omega
end Go.Proofs.Ytokhogdocaeelaa
