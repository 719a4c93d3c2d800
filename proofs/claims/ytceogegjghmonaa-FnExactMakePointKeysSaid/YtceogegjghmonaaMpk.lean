/- MakePointKeys of the program. -/
import Derived.Test.YtceogegjghmonaaMpkP
import Derived.Test.YtceogegjghmonaaPkOk
import Derived.Test.YtceogegjghmonaaNode
import Derived.Test.YtceogegjghmonaaBoxes
import Derived.Test.YtceogegjghmonaaRowAt
import Derived.IntWalk
import Derived.Maps.AppendAt
import Derived.Deep.RegionHeld3
namespace Go.Proofs.Ytceogegjghmonaa
set_option linter.unusedVariables false
open Go.RowKit

def mkOk (n p ra rb : Int) : Bool := decide ((1 ≤ n ∧ n ≤ 6) ∧ (0 ≤ p ∧ p ≤ 2 ^ n.toNat - 1) ∧ (0 ≤ ra ∧ ra ≤ 2147483646) ∧ (0 ≤ rb ∧ rb ≤ 2147483646))
/-- Two rows of corrections of the call's own, each in the third field of a box, and two result boxes. -/
structure MkAt (PK C : TypeId) (w : World) (ra rb : Int) (va vb : Value) (i : Nat) (cs : List Corr) (W : World) : Prop where
  r1 : Box W w.heap.size PK #[.int .i64 0, .int .i64 0, .slice none 0 0]
  r2 : Box W (w.heap.size + 1) PK #[.int .i64 0, .int .i64 0, .slice none 0 0]
  a : Box W (w.heap.size + 2) PK #[.int .i64 ra, .int .i64 0, va]
  b : Box W (w.heap.size + 3) PK #[.int .i64 rb, .int .i64 1, vb]
  oa : W.ownsRow 0 C 3 va i (cellsC cs)
  ob : W.ownsRow 0 C 3 vb i (cellsC cs)
  ga : ∀ q, va.ownBlock = some q → w.heap.size + 4 ≤ q
  gb : ∀ q, vb.ownBlock = some q → w.heap.size + 4 ≤ q
  ne : ∀ q, va.ownBlock = some q → vb.ownBlock = some q → False
  bel : Below w.heap.size w W
theorem MkAt.below {PK C : TypeId} {w : World} {ra rb : Int} {va vb : Value} {i : Nat} {cs : List Corr} {W W' : World} (h : MkAt PK C w ra rb va vb i cs W) (hb : Below W.heap.size W W') : MkAt PK C w ra rb va vb i cs W' where
  r1 := h.r1.below hb h.r1.lt
  r2 := h.r2.below hb h.r2.lt
  a := h.a.below hb h.a.lt
  b := h.b.below hb h.b.lt
  oa := by
    have := h.oa
    refine ⟨this.1, ?_⟩
    rcases this.2 with h0 | ⟨g, cap, cur, e, k1, k2, k3⟩
    · exact .inl h0
    · exact .inr ⟨g, cap, cur, e, k1, by rw [hb.block g (Array.getElem?_eq_some_iff.1 k2).1]; exact k2, k3⟩
  ob := by
    have := h.ob
    refine ⟨this.1, ?_⟩
    rcases this.2 with h0 | ⟨g, cap, cur, e, k1, k2, k3⟩
    · exact .inl h0
    · exact .inr ⟨g, cap, cur, e, k1, by rw [hb.block g (Array.getElem?_eq_some_iff.1 k2).1]; exact k2, k3⟩
  ga := h.ga
  gb := h.gb
  ne := h.ne
  bel := h.bel.trans (hb.mono h.bel.size)
theorem ownsC_at {C : TypeId} {W W' : World} {v : Value} {n : Nat} {cells : List Value} (h : W.ownsRow 0 C 3 v n cells) (hk : ∀ q, v.ownBlock = some q → W'.heap[q]? = W.heap[q]?) : W'.ownsRow 0 C 3 v n cells := by
  refine ⟨h.1, ?_⟩
  rcases h.2 with h0 | ⟨g, cap, cur, rfl, k1, k2, k3⟩
  · exact .inl h0
  · exact .inr ⟨g, cap, cur, rfl, k1, by rw [hk g rfl]; exact k2, k3⟩
/-- A world half way: the first row is one longer. -/
theorem mk_append {PK C : TypeId} {w : World} {ra rb : Int} {va vb va2 vb2 : Value} {i : Nat} {cs : List Corr} {x : Corr} {W W2 W3 W4 : World} {o1 o2 : Obj} (h : MkAt PK C w ra rb va vb i cs W)
    (h1 : W2.ownsRow 0 C 3 va2 (i + 1) (cellsC cs ++ [.int .i64 x.1, .int .i64 x.2.1, .int .i64 x.2.2])) (g1 : (W.alloc o1).grownBy W2 va.ownBlock) (t1 : va2.ownBlock = va.ownBlock ∨ va2.ownBlock = some (W.alloc o1).heap.size)
    (h2 : W4.ownsRow 0 C 3 vb2 (i + 1) (cellsC cs ++ [.int .i64 x.1, .int .i64 x.2.1, .int .i64 x.2.2])) (g2 : (W3.alloc o2).grownBy W4 vb.ownBlock) (t2 : vb2.ownBlock = vb.ownBlock ∨ vb2.ownBlock = some (W3.alloc o2).heap.size)
    (e3 : W3 = W2.setCell ⟨w.heap.size + 2, 2, none⟩ va2) :
    MkAt PK C w ra rb va2 vb2 (i + 1) (cs ++ [x]) (W4.setCell ⟨w.heap.size + 3, 2, none⟩ vb2) ∧
    (∀ q, q < W.heap.size → some q ≠ va.ownBlock → some q ≠ vb.ownBlock → q ≠ w.heap.size + 2 → q ≠ w.heap.size + 3 → (W4.setCell ⟨w.heap.size + 3, 2, none⟩ vb2).heap[q]? = W.heap[q]?) := by
  have s1 := g1.size
  have s2 := g2.size
  have z1 : (W.alloc o1).heap.size = W.heap.size + 1 := by simp
  have z3 : (W3.alloc o2).heap.size = W3.heap.size + 1 := by simp
  have z23 : W3.heap.size = W2.heap.size := by rw [e3]; simp [World.setCell]
  have hbl := h.b.lt
  have hall : ∀ q, va.ownBlock = some q → q < W.heap.size := fun q hq => (h.oa.lt q hq).2
  have hbll : ∀ q, vb.ownBlock = some q → q < W.heap.size := fun q hq => (h.ob.lt q hq).2
  have k12 : ∀ q, q < W.heap.size → some q ≠ va.ownBlock → W2.heap[q]? = W.heap[q]? := fun q hq hn => (g1.block q (by omega) hn).trans (Below.heap_alloc W o1 q hq)
  have k23 : ∀ q, q ≠ w.heap.size + 2 → W3.heap[q]? = W2.heap[q]? := fun q hn => by rw [e3]; exact Below.heap_setCell _ _ _ _ hn
  have k34 : ∀ q, q < W3.heap.size → some q ≠ vb.ownBlock → W4.heap[q]? = W3.heap[q]? := fun q hq hn => (g2.block q (by omega) hn).trans (Below.heap_alloc W3 o2 q hq)
  have k45 : ∀ q, q ≠ w.heap.size + 3 → (W4.setCell ⟨w.heap.size + 3, 2, none⟩ vb2).heap[q]? = W4.heap[q]? := fun q hn => Below.heap_setCell _ _ _ _ hn
  have all : ∀ q, q < W.heap.size → some q ≠ va.ownBlock → some q ≠ vb.ownBlock → q ≠ w.heap.size + 2 → q ≠ w.heap.size + 3 → (W4.setCell ⟨w.heap.size + 3, 2, none⟩ vb2).heap[q]? = W.heap[q]? := fun q hq n1 n2 n3 n4 => by
    rw [k45 q n4, k34 q (by omega) n2, k23 q n3, k12 q hq n1]
  have lowA : ∀ q, q < w.heap.size + 4 → some q ≠ va.ownBlock := fun q hq e => by have := h.ga q e.symm; omega
  have lowB : ∀ q, q < w.heap.size + 4 → some q ≠ vb.ownBlock := fun q hq e => by have := h.gb q e.symm; omega
  have ga2 : ∀ q, va2.ownBlock = some q → w.heap.size + 4 ≤ q ∧ q < W2.heap.size := fun q hq => by
    refine ⟨?_, (h1.lt q hq).2⟩
    rcases t1 with e | e
    · exact h.ga q (e ▸ hq)
    · rw [e] at hq; injection hq with hq; omega
  have gb2 : ∀ q, vb2.ownBlock = some q → w.heap.size + 4 ≤ q := fun q hq => by
    rcases t2 with e | e
    · exact h.gb q (e ▸ hq)
    · rw [e] at hq; injection hq with hq; omega
  have nAB : ∀ q, va2.ownBlock = some q → some q ≠ vb.ownBlock := fun q hq e => by
    rcases t1 with e1 | e1
    · exact h.ne q (e1 ▸ hq) e.symm
    · rw [e1] at hq; injection hq with hq; have := hbll q e.symm; omega
  have hcc : cellsC (cs ++ [x]) = cellsC cs ++ [.int .i64 x.1, .int .i64 x.2.1, .int .i64 x.2.2] := by rw [cellsC_append]; rfl
  refine ⟨?_, all⟩
  have bA : Box W3 (w.heap.size + 2) PK #[.int .i64 ra, .int .i64 0, va2] := by
    have hb2 : Box W2 (w.heap.size + 2) PK #[.int .i64 ra, .int .i64 0, va] := (k12 _ h.a.lt (lowA _ (by omega))).trans h.a
    rw [e3]
    exact hb2.set_ 2 va2
  have bB : Box W4 (w.heap.size + 3) PK #[.int .i64 rb, .int .i64 1, vb] := by
    have q1 := k12 _ h.b.lt (lowA _ (by omega))
    have q2 := k23 (w.heap.size + 3) (by omega)
    have q3 := k34 (w.heap.size + 3) (by have := h.b.lt; omega) (lowB _ (by omega))
    exact (q3.trans (q2.trans q1)).trans h.b
  exact {
    r1 := (all _ h.r1.lt (lowA _ (by omega)) (lowB _ (by omega)) (by omega) (by omega)).trans h.r1
    r2 := (all _ h.r2.lt (lowA _ (by omega)) (lowB _ (by omega)) (by omega) (by omega)).trans h.r2
    a := (((k45 _ (by omega)).trans (k34 _ bA.lt (lowB _ (by omega))))).trans bA
    b := bB.set_ 2 vb2
    oa := by
      rw [hcc]
      exact ownsC_at h1 (fun q hq => by
        have h4 := ga2 q hq
        rw [k45 q (by omega), k34 q (by omega) (nAB q hq), k23 q (by omega)])
    ob := by
      rw [hcc]
      exact ownsC_at h2 (fun q hq => k45 q (by have := gb2 q hq; omega))
    ga := fun q hq => (ga2 q hq).1
    gb := gb2
    ne := fun q hq hq2 => by
      rcases t2 with e | e
      · exact nAB q hq (e ▸ hq2).symm
      · rw [e] at hq2; injection hq2 with hq2; have := (ga2 q hq).2; omega
    bel := by
      have hb := h.bel
      refine hb.trans ⟨?_, ?_, ?_, ?_, fun q hq => all q (by have := hb.size; omega) (lowA _ (by omega)) (lowB _ (by omega)) (by omega) (by omega)⟩
      · show W4.os = W.os
        rw [g2.os]; show W3.os = W.os; rw [e3]; show W2.os = W.os; rw [g1.os]; rfl
      · show W4.tape = W.tape
        rw [g2.tape]; show W3.tape = W.tape; rw [e3]; show W2.tape = W.tape; rw [g1.tape]; rfl
      · show W4.output = W.output
        rw [g2.output]; show W3.output = W.output; rw [e3]; show W2.output = W.output; rw [g1.output]; rfl
      · have : (W4.setCell ⟨w.heap.size + 3, 2, none⟩ vb2).heap.size = W4.heap.size := by simp [World.setCell]
        omega }
set_option maxRecDepth 100000 in
theorem wpList_appC {ops : Array Oper} {rest : List Oper} {o : Oper} {a : Act} {Q : Exit → Act → World → Prop} {w : World} (hgd : o.guard = none) (s x : Operand)
    (ho : o.op = .call { callee := .builtin .append, args := #[s, x], argTypes := #[61, 61] }) (v : Value) (n : Nat) (cells : List Value) (hs : a.eval s = v) (hown : w.ownsRow 0 116 3 v n cells) (g c : Nat) (u0 u1 u2 : Int) (hx : a.eval x = .slice (some ⟨g, 0, none⟩) 1 c)
    (hnews : Src w (some ⟨g, 0, none⟩) 3 [.int .i64 u0, .int .i64 u1, .int .i64 u2]) (h63 : n ≤ 1000000)
    (h : ∀ v' w', w'.ownsRow 0 116 3 v' (n + 1) (cells ++ [.int .i64 u0, .int .i64 u1, .int .i64 u2]) → w.grownBy w' v.ownBlock → (v'.ownBlock = v.ownBlock ∨ v'.ownBlock = some w.heap.size) → wpList Try.prog ops Q rest (a.put o.dst v') w') : wpList Try.prog ops Q (o :: rest) a w := by
  obtain ⟨i, hi, hzz⟩ := Option.map_eq_some_iff.1 elC_info
  simp only [Prod.mk.injEq] at hzz
  obtain ⟨hz, hsz, hb⟩ := hzz
  refine wpList_append_own_at w hgd s x 61 ho 0 116 i (.agg #[.int .i64 0, .int .i64 0, .int .i64 0]) 3 24 Try.underlying61 hi hz hsz hb rfl (by omega) v n cells hs hown ⟨g, 0, none⟩ 1 c [.int .i64 u0, .int .i64 u1, .int .i64 u2] hx rfl (fun j u hu => ?_) (by intro u hu; simp at hu; rcases hu with rfl | rfl | rfl <;> rfl) (by simp only [maxLen]; omega) (by omega) (Nat.zero_le _) (fun v' w' h1 h2 _ h3 => h v' w' h1 h2 h3)
  obtain ⟨b, off, e, hc⟩ := hnews.2 (Nat.succ_pos 2)
  injection e with e
  rw [e, addr_add]
  exact hc j u hu
theorem Src_3 (w : World) (a b c : Value) (E : TypeId) : Src (w.alloc (.cells #[a, b, c] E)) (some ⟨w.heap.size, 0, none⟩) 3 [a, b, c] :=
  ⟨rfl, fun _ => ⟨w.heap.size, 0, rfl, fun j v hv => by
    rw [World.cell?_alloc_at _ _ _ _ rfl, Nat.zero_add]
    match j with
    | 0 => simpa using hv
    | 1 => simpa using hv
    | 2 => simpa using hv
    | j + 3 => simp at hv⟩⟩
end Go.Proofs.Ytceogegjghmonaa
