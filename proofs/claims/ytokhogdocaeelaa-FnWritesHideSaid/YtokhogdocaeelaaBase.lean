/- Words for memory: a slice that reads as a list, a value that owns its blocks, what a call leaves of the world. Plain theorems about the model's worlds; no function of the program is named. -/
import Derived.WalkKit
import Derived.WalkSpells
import Derived.WalkLawsBesides
import Derived.BigQuiet
import Derived.Lib.Hide
import Derived.Deep.QuietTactic
import Derived.Maps.AppendAt
import Derived.Deep.AppendLies
import Derived.Deep.OwnRows
import Derived.RegionTactic
import Derived.OwnWalk
namespace Go.Proofs.Ytokhogdocaeelaa
set_option linter.unusedVariables false
open Go.RowKit

abbrev Rel (α : Type) := World → Value → α → Prop
abbrev FRel (α : Type) := World → Value → α → List Nat → Prop

def RB : Rel UInt8 := fun _ v x => v = .int .u8 (x.toNat : Int)
def RI : Rel Int := fun _ v x => v = .int .i64 x
def FB : FRel UInt8 := fun _ v x F => v = .int .u8 (x.toNat : Int) ∧ F = []
def FI : FRel Int := fun _ v x F => v = .int .i64 x ∧ F = []

/-- The slice header (A, n, c) reads as the list xs, element by element in the relation R. -/
def RdAt {α : Type} (R : Rel α) (w : World) (A : Option Addr) (n c : Nat) (xs : List α) : Prop :=
  xs.length = n ∧ n ≤ c ∧ c ≤ maxLen ∧ (0 < n → ∃ b off, A = some ⟨b, off, none⟩ ∧ b < w.heap.size ∧ ∀ j x, xs[j]? = some x → ∃ u, w.cell? ⟨b, off + j, none⟩ = some u ∧ R w u x)

def Rd {α : Type} (R : Rel α) : Rel (List α) := fun w v xs => ∃ A n c, v = .slice A n c ∧ RdAt R w A n c xs

def AllR {α : Type} (R : FRel α) (w : World) : List Value → List α → List Nat → Prop
  | [], [], F => F = []
  | c :: cs, x :: xs, F => ∃ F1 F2, F = F1 ++ F2 ∧ R w c x F1 ∧ AllR R w cs xs F2
  | _, _, _ => False

def Own {α : Type} (E : TypeId) (R : FRel α) : FRel (List α) := fun w v xs F =>
  ∃ cells F', w.ownsRow 0 E 1 v xs.length cells ∧ AllR R w cells xs F' ∧ F = v.ownBlock.toList ++ F'

structure Good {α : Type} (R : FRel α) : Prop where
  stab : ∀ {w w' : World} {v : Value} {x : α} {F : List Nat}, R w v x F → (∀ b, b ∈ F → w'.heap[b]? = w.heap[b]?) → R w' v x F
  lt : ∀ {w : World} {v : Value} {x : α} {F : List Nat}, R w v x F → ∀ b, b ∈ F → b < w.heap.size
  one : ∀ {w : World} {v : Value} {x : α} {F : List Nat}, R w v x F → v.oneCell' = true

/-- A relation that reads only blocks that are there. -/
def Reads {α : Type} (R : Rel α) : Prop := ∀ (w w' : World) (v : Value) (x : α), R w v x → Below w.heap.size w w' → R w' v x

theorem RB_reads : Reads RB := fun _ _ _ _ h _ => h
theorem RI_reads : Reads RI := fun _ _ _ _ h _ => h

theorem Rd_reads {α : Type} {R : Rel α} (hR : Reads R) : Reads (Rd R) := by
  rintro w w' v xs ⟨A, n, c, hv, h1, h2, h3, h4⟩ hb
  refine ⟨A, n, c, hv, h1, h2, h3, fun hn => ?_⟩
  obtain ⟨b, off, hA, hlt, hc⟩ := h4 hn
  refine ⟨b, off, hA, Nat.lt_of_lt_of_le hlt hb.size, fun j x hx => ?_⟩
  obtain ⟨u, hu, hr⟩ := hc j x hx
  exact ⟨u, (hb.cell (p := ⟨b, off + j, none⟩) hlt).trans hu, hR _ _ _ _ hr hb⟩

theorem RdAt_reads {α : Type} {R : Rel α} (hR : Reads R) {w w' : World} {A : Option Addr} {n c : Nat} {xs : List α} (h : RdAt R w A n c xs) (hb : Below w.heap.size w w') : RdAt R w' A n c xs := by
  obtain ⟨A', n', c', he, h'⟩ := Rd_reads hR w w' (.slice A n c) xs ⟨A, n, c, rfl, h⟩ hb
  injection he with e1 e2 e3
  subst e1 e2 e3
  exact h'

theorem RdAt.at_ {α : Type} {R : Rel α} {w : World} {A : Option Addr} {n c : Nat} {xs : List α} (h : RdAt R w A n c xs) {k : Nat} (hk : k < n) :
    ∃ b off x u, A = some ⟨b, off, none⟩ ∧ b < w.heap.size ∧ xs[k]? = some x ∧ w.cell? ⟨b, off + k, none⟩ = some u ∧ R w u x := by
  obtain ⟨b, off, hA, hb, hc⟩ := h.2.2.2 (by omega)
  have hl : k < xs.length := by have := h.1; omega
  obtain ⟨u, hu, hr⟩ := hc k _ (List.getElem?_eq_getElem hl)
  exact ⟨b, off, xs[k], u, hA, hb, List.getElem?_eq_getElem hl, hu, hr⟩

theorem FB_good : Good FB where
  stab := fun h _ => h
  lt := fun h b hb => by rw [h.2] at hb; cases hb
  one := fun h => by rw [h.1]; rfl

theorem FI_good : Good FI where
  stab := fun h _ => h
  lt := fun h b hb => by rw [h.2] at hb; cases hb
  one := fun h => by rw [h.1]; rfl

section
variable {α : Type} {R : FRel α} {w w' : World}

theorem AllR.len {cs : List Value} {xs : List α} {F : List Nat} (h : AllR R w cs xs F) : cs.length = xs.length := by
  induction cs generalizing xs F with
  | nil => cases xs with
    | nil => rfl
    | cons x xs => exact h.elim
  | cons c cs ih => cases xs with
    | nil => exact h.elim
    | cons x xs => obtain ⟨F1, F2, _, _, h2⟩ := h; simp [ih h2]

theorem AllR.stab (hR : Good R) {cs : List Value} {xs : List α} {F : List Nat} (h : AllR R w cs xs F) (hk : ∀ b, b ∈ F → w'.heap[b]? = w.heap[b]?) : AllR R w' cs xs F := by
  induction cs generalizing xs F with
  | nil => cases xs with
    | nil => exact h
    | cons x xs => exact h.elim
  | cons c cs ih => cases xs with
    | nil => exact h.elim
    | cons x xs =>
      obtain ⟨F1, F2, rfl, h1, h2⟩ := h
      exact ⟨F1, F2, rfl, hR.stab h1 (fun b hb => hk b (List.mem_append_left _ hb)), ih h2 (fun b hb => hk b (List.mem_append_right _ hb))⟩

theorem AllR.lt (hR : Good R) {cs : List Value} {xs : List α} {F : List Nat} (h : AllR R w cs xs F) : ∀ b, b ∈ F → b < w.heap.size := by
  induction cs generalizing xs F with
  | nil => cases xs with
    | nil => cases h; intro b hb; cases hb
    | cons x xs => exact h.elim
  | cons c cs ih => cases xs with
    | nil => exact h.elim
    | cons x xs =>
      obtain ⟨F1, F2, rfl, h1, h2⟩ := h
      intro b hb
      rcases List.mem_append.1 hb with hb | hb
      · exact hR.lt h1 b hb
      · exact ih h2 b hb

theorem AllR.append {cs cs' : List Value} {xs xs' : List α} {F F' : List Nat} (h : AllR R w cs xs F) (h' : AllR R w cs' xs' F') : AllR R w (cs ++ cs') (xs ++ xs') (F ++ F') := by
  induction cs generalizing xs F with
  | nil => cases xs with
    | nil => cases h; exact h'
    | cons x xs => exact h.elim
  | cons c cs ih => cases xs with
    | nil => exact h.elim
    | cons x xs =>
      obtain ⟨F1, F2, rfl, h1, h2⟩ := h
      exact ⟨F1, F2 ++ F', by simp, h1, ih h2⟩

theorem AllR.one {c : Value} {x : α} {F : List Nat} (h : R w c x F) : AllR R w [c] [x] F := ⟨F, [], by simp, h, rfl⟩

theorem AllR.snoc {cs : List Value} {xs : List α} {F F' : List Nat} {c : Value} {x : α} (h : AllR R w cs xs F) (h' : R w c x F') : AllR R w (cs ++ [c]) (xs ++ [x]) (F ++ F') :=
  h.append (AllR.one h')

theorem AllR.get {cs : List Value} {xs : List α} {F : List Nat} (h : AllR R w cs xs F) {j : Nat} {x : α} (hx : xs[j]? = some x) : ∃ c F1, cs[j]? = some c ∧ R w c x F1 ∧ (∀ b, b ∈ F1 → b ∈ F) := by
  induction cs generalizing xs F j with
  | nil => cases xs with
    | nil => simp at hx
    | cons x xs => exact h.elim
  | cons c cs ih => cases xs with
    | nil => exact h.elim
    | cons y ys =>
      obtain ⟨F1, F2, rfl, h1, h2⟩ := h
      cases j with
      | zero =>
        simp only [List.getElem?_cons_zero, Option.some.injEq] at hx
        subst hx
        exact ⟨c, F1, rfl, h1, fun b hb => List.mem_append_left _ hb⟩
      | succ j =>
        simp only [List.getElem?_cons_succ] at hx
        obtain ⟨c', F', hc, hr, hm⟩ := ih h2 hx
        exact ⟨c', F', by simpa using hc, hr, fun b hb => List.mem_append_right _ (hm b hb)⟩

/-- The list at index j split off: what stands before, the element, what stands behind. -/
theorem AllR.split {cs : List Value} {xs : List α} {F : List Nat} (h : AllR R w cs xs F) {j : Nat} {x : α} (hx : xs[j]? = some x) :
    ∃ c F1 F2 F3, cs[j]? = some c ∧ F = F1 ++ (F2 ++ F3) ∧ AllR R w (cs.take j) (xs.take j) F1 ∧ R w c x F2 ∧ AllR R w (cs.drop (j + 1)) (xs.drop (j + 1)) F3 := by
  induction cs generalizing xs F j with
  | nil => cases xs with
    | nil => simp at hx
    | cons x xs => exact h.elim
  | cons c cs ih => cases xs with
    | nil => exact h.elim
    | cons y ys =>
      obtain ⟨F1, F2, rfl, h1, h2⟩ := h
      cases j with
      | zero =>
        simp only [List.getElem?_cons_zero, Option.some.injEq] at hx
        subst hx
        exact ⟨c, [], F1, F2, rfl, by simp, rfl, h1, by simpa using h2⟩
      | succ j =>
        simp only [List.getElem?_cons_succ] at hx
        obtain ⟨c', G1, G2, G3, hc, rfl, ha, hb, hd⟩ := ih h2 hx
        exact ⟨c', F1 ++ G1, G2, G3, by simpa using hc, by simp, ⟨F1, G1, rfl, h1, ha⟩, hb, by simpa using hd⟩

theorem AllR.set {cs : List Value} {xs : List α} {F1 F2 F3 : List Nat} {j : Nat} {c : Value} {x : α} (hj : j < xs.length) (hjc : j < cs.length) (h1 : AllR R w (cs.take j) (xs.take j) F1) (h2 : R w c x F2) (h3 : AllR R w (cs.drop (j + 1)) (xs.drop (j + 1)) F3) :
    AllR R w (cs.set j c) (xs.set j x) (F1 ++ (F2 ++ F3)) := by
  rw [List.set_eq_take_append_cons_drop, List.set_eq_take_append_cons_drop, if_pos hj, if_pos hjc]
  exact h1.append ⟨F2, F3, rfl, h2, h3⟩

theorem AllR.oneCell (hR : Good R) {cs : List Value} {xs : List α} {F : List Nat} (h : AllR R w cs xs F) : ∀ c, c ∈ cs → c.oneCell' = true := by
  induction cs generalizing xs F with
  | nil => intro c hc; cases hc
  | cons c cs ih => cases xs with
    | nil => exact h.elim
    | cons x xs =>
      obtain ⟨F1, F2, rfl, h1, h2⟩ := h
      intro d hd
      rcases List.mem_cons.1 hd with rfl | hd
      · exact hR.one h1
      · exact ih h2 d hd
end

theorem AllR_FB {w : World} {cs : List Value} {xs : List UInt8} {F : List Nat} : AllR FB w cs xs F ↔ cs = xs.map (fun x => Value.int .u8 (x.toNat : Int)) ∧ F = [] := by
  induction cs generalizing xs F with
  | nil => cases xs with
    | nil => simp [AllR]
    | cons x xs => simp [AllR]
  | cons c cs ih => cases xs with
    | nil => simp [AllR]
    | cons x xs =>
      simp only [AllR, ih, List.map_cons, List.cons.injEq]
      constructor
      · rintro ⟨F1, F2, rfl, ⟨rfl, rfl⟩, rfl, rfl⟩; exact ⟨⟨rfl, rfl⟩, rfl⟩
      · rintro ⟨⟨rfl, rfl⟩, rfl⟩; exact ⟨[], [], rfl, ⟨rfl, rfl⟩, rfl, rfl⟩

theorem AllR_FI {w : World} {cs : List Value} {xs : List Int} {F : List Nat} : AllR FI w cs xs F ↔ cs = xs.map (fun x => Value.int .i64 x) ∧ F = [] := by
  induction cs generalizing xs F with
  | nil => cases xs with
    | nil => simp [AllR]
    | cons x xs => simp [AllR]
  | cons c cs ih => cases xs with
    | nil => simp [AllR]
    | cons x xs =>
      simp only [AllR, ih, List.map_cons, List.cons.injEq]
      constructor
      · rintro ⟨F1, F2, rfl, ⟨rfl, rfl⟩, rfl, rfl⟩; exact ⟨⟨rfl, rfl⟩, rfl⟩
      · rintro ⟨⟨rfl, rfl⟩, rfl⟩; exact ⟨[], [], rfl, ⟨rfl, rfl⟩, rfl, rfl⟩

theorem ownsRow_at {w w' : World} {E : TypeId} {v : Value} {n : Nat} {cells : List Value} (h : w.ownsRow 0 E 1 v n cells) (hk : ∀ b, b ∈ v.ownBlock.toList → w'.heap[b]? = w.heap[b]?) : w'.ownsRow 0 E 1 v n cells := by
  obtain ⟨h1, h2⟩ := h
  refine ⟨h1, ?_⟩
  rcases h2 with h2 | ⟨g, cap, cur, rfl, hb, hg, r⟩
  · exact .inl h2
  · exact .inr ⟨g, cap, cur, rfl, hb, by rw [hk g (by simp [Value.ownBlock])]; exact hg, r⟩

theorem ownsRow_base {w : World} {E : TypeId} {v : Value} {n : Nat} {cells : List Value} {B B' : Nat} (h : w.ownsRow B E 1 v n cells) (hb : ∀ b, v.ownBlock = some b → B' ≤ b) : w.ownsRow B' E 1 v n cells := by
  obtain ⟨h1, h2⟩ := h
  refine ⟨h1, ?_⟩
  rcases h2 with h2 | ⟨g, cap, cur, rfl, _, hg, r⟩
  · exact .inl h2
  · exact .inr ⟨g, cap, cur, rfl, hb g rfl, hg, r⟩

theorem Own_good {α : Type} {E : TypeId} {R : FRel α} (hR : Good R) : Good (Own E R) where
  stab := by
    rintro w w' v x F ⟨cells, F', h1, h2, rfl⟩ hk
    exact ⟨cells, F', ownsRow_at h1 (fun b hb => hk b (List.mem_append_left _ hb)), h2.stab hR (fun b hb => hk b (List.mem_append_right _ hb)), rfl⟩
  lt := by
    rintro w v x F ⟨cells, F', h1, h2, rfl⟩ b hb
    rcases List.mem_append.1 hb with hb | hb
    · exact (h1.lt b (by simpa using hb)).2
    · exact h2.lt hR b hb
  one := by
    rintro w v x F ⟨cells, F', h1, h2, rfl⟩
    rcases h1.2 with ⟨rfl, _⟩ | ⟨g, cap, cur, rfl, _⟩ <;> rfl

theorem Own.rd {α : Type} {E : TypeId} {R : FRel α} {R' : Rel α} {w : World} {v : Value} {xs : List α} {F : List Nat} (h : Own E R w v xs F) (hR : ∀ {u x G}, R w u x G → R' w u x) : Rd R' w v xs := by
  obtain ⟨cells, F', h1, h2, _⟩ := h
  rcases h1.2 with ⟨rfl, h0⟩ | ⟨g, cap, cur, rfl, _, hg, hn, hc, hs, ht⟩
  · exact ⟨none, 0, 0, rfl, by omega, Nat.le_refl _, by simp [maxLen], fun h => by omega⟩
  · refine ⟨some ⟨g, 0, none⟩, xs.length, cap, rfl, rfl, hn, hc, fun _ => ⟨g, 0, rfl, (h1.lt g rfl).2, fun j x hx => ?_⟩⟩
    obtain ⟨u, G, hu, hr, _⟩ := h2.get hx
    have hj : j < xs.length := (List.getElem?_eq_some_iff.1 hx).1
    have := h1.cellAt j (by omega)
    exact ⟨u, by simpa using this.trans hu, hR hr⟩

theorem FB.rb {w : World} {u : Value} {x : UInt8} {G : List Nat} (h : FB w u x G) : RB w u x := h.1
theorem FI.ri {w : World} {u : Value} {x : Int} {G : List Nat} (h : FI w u x G) : RI w u x := h.1

/-- What a call hands back in new memory. -/
def Fresh {α : Type} (R : FRel α) (w w' : World) (v : Value) (x : α) : Prop :=
  ∃ F, R w' v x F ∧ F.Nodup ∧ (∀ b, b ∈ F → w.heap.size ≤ b) ∧ Below w.heap.size w w'

/-- A value that owns blocks between lo and hi. -/
def Iv {α : Type} (R : FRel α) (lo hi : Nat) (w : World) (v : Value) (x : α) : Prop :=
  ∃ F, R w v x F ∧ F.Nodup ∧ ∀ b, b ∈ F → lo ≤ b ∧ b < hi

theorem Fresh.below {α : Type} {R : FRel α} {w w' : World} {v : Value} {x : α} (h : Fresh R w w' v x) : Below w.heap.size w w' := by
  obtain ⟨F, _, _, _, h⟩ := h; exact h

theorem Fresh.iv {α : Type} {R : FRel α} (hR : Good R) {w w' : World} {v : Value} {x : α} (h : Fresh R w w' v x) : Iv R w.heap.size w'.heap.size w' v x := by
  obtain ⟨F, h1, h2, h3, _⟩ := h
  exact ⟨F, h1, h2, fun b hb => ⟨h3 b hb, hR.lt h1 b hb⟩⟩

theorem Fresh.step {α : Type} {R : FRel α} (hR : Good R) {w w' w'' : World} {v : Value} {x : α} (h : Fresh R w w' v x) (hb : Below w'.heap.size w' w'') : Fresh R w w'' v x := by
  obtain ⟨F, h1, h2, h3, h4⟩ := h
  exact ⟨F, hR.stab h1 (fun b hF => hb.block b (hR.lt h1 b hF)), h2, h3, h4.trans (hb.mono h4.size)⟩

theorem Fresh.pre {α : Type} {R : FRel α} {w0 w w' : World} {v : Value} {x : α} (hb : Below w0.heap.size w0 w) (h : Fresh R w w' v x) : Fresh R w0 w' v x := by
  obtain ⟨F, h1, h2, h3, h4⟩ := h
  exact ⟨F, h1, h2, fun b hF => Nat.le_trans hb.size (h3 b hF), hb.trans (h4.mono hb.size)⟩

theorem below_drewN {B : Nat} {a w : World} (h : Below B a w) (n : Nat) : Below B a (w.drewN n) := ⟨h.os, h.tape, h.output, h.size, h.block⟩

theorem below_cells {B : Nat} {W w1 : World} (hb : Below B W w1) : (∀ b o, b < B → w1.cell? ⟨b, o, none⟩ = W.cell? ⟨b, o, none⟩) ∧ (∀ b o, b < B → w1.frozen? ⟨b, o, none⟩ = W.frozen? ⟨b, o, none⟩) :=
  ⟨fun b o h => hb.cell (p := ⟨b, o, none⟩) h, fun b o h => hb.frozen (p := ⟨b, o, none⟩) h⟩

theorem ret_bool {a b : Bool} (h : a = b) : Ending.returned (.bool a) = .returned (.bool b) := by rw [h]
theorem ret_int {k : IntKind} {a b : Int} (h : a = b) : Ending.returned (.int k a) = .returned (.int k b) := by rw [h]

/-- Blocks between lo and hi alone may have turned; none has come. -/
structure Chg (lo hi : Nat) (w w' : World) : Prop where
  os : w'.os = w.os
  tape : w'.tape = w.tape
  output : w'.output = w.output
  size : w.heap.size ≤ w'.heap.size
  block : ∀ k, k < w.heap.size → ¬ (lo ≤ k ∧ k < hi) → w'.heap[k]? = w.heap[k]?

theorem Chg.refl (lo hi : Nat) (w : World) : Chg lo hi w w := ⟨rfl, rfl, rfl, Nat.le_refl _, fun _ _ _ => rfl⟩
theorem Chg.trans {lo hi : Nat} {a b c : World} (h : Chg lo hi a b) (k : Chg lo hi b c) : Chg lo hi a c :=
  ⟨k.os.trans h.os, k.tape.trans h.tape, k.output.trans h.output, Nat.le_trans h.size k.size, fun i hi hn => (k.block i (Nat.lt_of_lt_of_le hi h.size) hn).trans (h.block i hi hn)⟩
theorem Chg.below {lo hi B : Nat} {w w' : World} (h : Chg lo hi w w') (hB : B ≤ lo) (hw : B ≤ w.heap.size) : Below B w w' :=
  ⟨h.os, h.tape, h.output, h.size, fun k hk => h.block k (by omega) (by omega)⟩
theorem Chg.of_below {lo hi : Nat} {w w' : World} (h : Below w.heap.size w w') : Chg lo hi w w' :=
  ⟨h.os, h.tape, h.output, h.size, fun k hk _ => h.block k hk⟩
theorem Chg.drewN {lo hi : Nat} {a w : World} (h : Chg lo hi a w) (n : Nat) : Chg lo hi a (w.drewN n) := ⟨h.os, h.tape, h.output, h.size, h.block⟩

theorem Iv.chg {α : Type} {R : FRel α} (hR : Good R) {lo hi lo' hi' : Nat} {w w' : World} {v : Value} {x : α} (h : Iv R lo hi w v x) (hc : Chg lo' hi' w w') (hd : hi ≤ lo' ∨ hi' ≤ lo) : Iv R lo hi w' v x := by
  obtain ⟨F, h1, h2, h3⟩ := h
  exact ⟨F, hR.stab h1 (fun b hb => hc.block b (hR.lt h1 b hb) (by have := h3 b hb; omega)), h2, h3⟩

theorem Iv.below {α : Type} {R : FRel α} (hR : Good R) {lo hi : Nat} {w w' : World} {v : Value} {x : α} (h : Iv R lo hi w v x) (hb : Below w.heap.size w w') : Iv R lo hi w' v x := by
  obtain ⟨F, h1, h2, h3⟩ := h
  exact ⟨F, hR.stab h1 (fun b hF => hb.block b (hR.lt h1 b hF)), h2, h3⟩

theorem Iv.rd {α : Type} {E : TypeId} {R : FRel α} {R' : Rel α} {lo hi : Nat} {w : World} {v : Value} {xs : List α} (h : Iv (Own E R) lo hi w v xs) (hR : ∀ {u x G}, R w u x G → R' w u x) : Rd R' w v xs := by
  obtain ⟨F, h1, _, _⟩ := h
  exact h1.rd hR

/-! ### the built-in append onto a row of the call's own; make -/

/-- A slice type t of one-cell elements of type E, whose zero value is z. -/
structure ElT (P : Program) (t E : TypeId) (z : Value) (bytes : Nat) : Prop where
  ht : P.underlying t = some (.slice E)
  hinfo : (P.info? E).map (fun i => (i.zero, i.size, i.bytes)) = some (some z, 1, bytes)
  hz : z.cells = #[z]

/-- The source of an append: m cells, read where the slice points. -/
def Src (w : World) (A : Option Addr) (m : Nat) (news : List Value) : Prop :=
  news.length = m ∧ (0 < m → ∃ b off, A = some ⟨b, off, none⟩ ∧ ∀ j u, news[j]? = some u → w.cell? ⟨b, off + j, none⟩ = some u)

theorem addr_add (b off j : Nat) : (⟨b, off, none⟩ : Addr).add j = ⟨b, off + j, none⟩ := by
  unfold Addr.add
  split <;> simp_all

theorem Src_one (w : World) (u : Value) (E : TypeId) : Src (w.alloc (.cells #[u] E)) (some ⟨w.heap.size, 0, none⟩) 1 [u] :=
  ⟨rfl, fun _ => ⟨w.heap.size, 0, rfl, fun j v hv => by
    cases j with
    | zero => simp at hv; subst hv; rw [World.cell?_alloc_at _ _ _ _ rfl]; rfl
    | succ j => simp at hv⟩⟩

theorem Src.alloc {w : World} {A : Option Addr} {m : Nat} {news : List Value} (h : Src w A m news) (o : Obj) : Src (w.alloc o) A m news := by
  refine ⟨h.1, fun hm => ?_⟩
  obtain ⟨b, off, hA, hc⟩ := h.2 hm
  refine ⟨b, off, hA, fun j u hu => ?_⟩
  have hcell := hc j u hu
  exact (World.cell?_alloc_past _ _ _ (World.block_lt_of_cell? w _ hcell)).trans hcell

section
variable {P : Program} {t E : TypeId} {z : Value} {bytes : Nat}

theorem run_app (hel : ElT P t E z bytes) (ty : TypeId) (w : World) (v : Value) (n : Nat) (cells : List Value) (hown : w.ownsRow 0 E 1 v n cells) (A : Option Addr) (m c : Nat) (news : List Value)
    (hsrc : Src w A m news) (h1 : ∀ u ∈ news, u.oneCell' = true) (h63 : n + m ≤ maxLen) (hbytes : (n + m) * bytes ≤ 140737488355328) :
    ∃ v' w', (Builtin.append_ #[t, t] ty #[v, .slice A m c]).run P w = .ok v' w' ∧ w'.ownsRow 0 E 1 v' (n + m) (cells ++ news) ∧ w.grownBy w' v.ownBlock ∧
      (v'.ownBlock = v.ownBlock ∨ v'.ownBlock = some w.heap.size) := by
  obtain ⟨i, hi, hzz⟩ := Option.map_eq_some_iff.1 hel.hinfo
  simp only [Prod.mk.injEq] at hzz
  obtain ⟨hz, hs, hb⟩ := hzz
  obtain ⟨hl, hc⟩ := hsrc
  rcases A with _ | ad
  · have hm : m = 0 := by
      rcases Nat.eq_zero_or_pos m with h0 | h0
      · exact h0
      · obtain ⟨_, _, h, _⟩ := hc h0
        cases h
    subst hm
    have hn : news = [] := List.eq_nil_of_length_eq_zero hl
    subst hn
    have hrun : (Builtin.append_ #[t, t] ty #[v, .slice none 0 c]).run P w = .ok v w := by
      rcases hown.2 with ⟨rfl, rfl⟩ | ⟨g, cap, cur, rfl, _, _, hnc, _⟩
      · simp [Builtin.append_, run_underlying hel.ht, sizeOf, typeInfo, hi, Builtin.lenOf, Builtin.firstCells]
      · simp [Builtin.append_, run_underlying hel.ht, sizeOf, typeInfo, hi, Builtin.lenOf, Builtin.firstCells, hnc, storeCells]
    exact ⟨v, w, hrun, by simpa using hown, World.grownBy.refl w _, .inl rfl⟩
  · have hcells : ∀ j u, news[j]? = some u → w.cell? (ad.add j) = some u := by
      intro j u hu
      rcases Nat.eq_zero_or_pos m with h0 | h0
      · subst h0
        have hn : news = [] := List.eq_nil_of_length_eq_zero hl
        subst hn
        simp at hu
      · obtain ⟨b, off, h, hcc⟩ := hc h0
        injection h with h
        subst h
        rw [addr_add]
        exact hcc j u hu
    obtain ⟨v', w', hrun, h2, h3, _, h5⟩ := run_append_own_at (P := P) w 0 t ty E i z 1 bytes hel.ht hi hz hs hb (by rw [hel.hz]; rfl) (by omega) v n cells hown ad m c news (by simpa using hl) hcells h1 h63 hbytes (Nat.zero_le _)
    exact ⟨v', w', hrun, h2, h3, h5⟩

theorem wp_app (hel : ElT P t E z bytes) {w : World} {o : Oper} {a : Act} {K : Act → World → Prop} {Q : Exit → Act → World → Prop} (s x : Operand)
    (ho : o.op = .call { callee := .builtin .append, args := #[s, x], argTypes := #[t, t] })
    (v : Value) (n : Nat) (cells : List Value) (hs : a.eval s = v) (hown : w.ownsRow 0 E 1 v n cells)
    (A : Option Addr) (m c : Nat) (news : List Value) (hx : a.eval x = .slice A m c) (hsrc : Src w A m news) (h1 : ∀ u ∈ news, u.oneCell' = true)
    (h63 : n + m ≤ maxLen) (hbytes : (n + m) * bytes ≤ 140737488355328)
    (h : ∀ v' w', w'.ownsRow 0 E 1 v' (n + m) (cells ++ news) → w.grownBy w' v.ownBlock → (v'.ownBlock = v.ownBlock ∨ v'.ownBlock = some w.heap.size) → K (a.put o.dst v') w') : o.wp P a w K Q := by
  obtain ⟨v', w', hrun, h2, h3, h4⟩ := run_app hel o.type w v n cells hown A m c news hsrc h1 h63 hbytes
  unfold Oper.wp execOp
  simp only [ho, resolve, invoke, builtin, Sem.run_bind, Sem.run_pure, Result.andThen_ok, List.map_toArray, List.map_cons, List.map_nil, hs, hx, hrun]
  exact h v' w' h2 h3 h4

/-- append in a plain region: behind 'at_builtin'. -/
theorem wpList_app (hel : ElT P t E z bytes) {w : World} {ops : Array Oper} {rest : List Oper} {o : Oper} {a : Act} {Q : Exit → Act → World → Prop} (hgd : o.guard = none) (s x : Operand)
    (ho : o.op = .call { callee := .builtin .append, args := #[s, x], argTypes := #[t, t] })
    (v : Value) (n : Nat) (cells : List Value) (hs : a.eval s = v) (hown : w.ownsRow 0 E 1 v n cells)
    (A : Option Addr) (m c : Nat) (news : List Value) (hx : a.eval x = .slice A m c) (hsrc : Src w A m news) (h1 : ∀ u ∈ news, u.oneCell' = true)
    (h63 : n + m ≤ maxLen) (hbytes : (n + m) * bytes ≤ 140737488355328)
    (h : ∀ v' w', w'.ownsRow 0 E 1 v' (n + m) (cells ++ news) → w.grownBy w' v.ownBlock → (v'.ownBlock = v.ownBlock ∨ v'.ownBlock = some w.heap.size) → wpList P ops Q rest (a.put o.dst v') w') : wpList P ops Q (o :: rest) a w :=
  wpList_plain hgd fun _ hK => wp_app hel s x ho v n cells hs hown A m c news hx hsrc h1 h63 hbytes fun v' w' h2 h3 h4 => hK _ _ (h v' w' h2 h3 h4)

/-- append in a region that draws its order: for 'go_region_law', 'go_region_held3'. -/
theorem step_app (hel : ElT P t E z bytes) {w : World} {ops : Array Oper} {o : Oper} {a : Act} {K : Act → World → Prop} {Q : Exit → Act → World → Prop} {X : Prop} (hgd : o.guard = none) (s x : Operand)
    (ho : o.op = .call { callee := .builtin .append, args := #[s, x], argTypes := #[t, t] })
    (v : Value) (n : Nat) (cells : List Value) (hs : a.eval s = v) (hown : w.ownsRow 0 E 1 v n cells)
    (A : Option Addr) (m c : Nat) (news : List Value) (hx : a.eval x = .slice A m c) (hsrc : Src w A m news) (h1 : ∀ u ∈ news, u.oneCell' = true)
    (h63 : n + m ≤ maxLen) (hbytes : (n + m) * bytes ≤ 140737488355328)
    (h : ∀ v' w', w'.ownsRow 0 E 1 v' (n + m) (cells ++ news) → w.grownBy w' v.ownBlock → (v'.ownBlock = v.ownBlock ∨ v'.ownBlock = some w.heap.size) → K (a.put o.dst v') w') :
    if Region.wanted o (yielded ops a.tmps) = true then Oper.wp P o a w K Q else X := by
  have hw : Region.wanted o (yielded ops a.tmps) = true := by simp [Region.wanted, hgd]
  rw [if_pos hw]
  exact wp_app hel s x ho v n cells hs hown A m c news hx hsrc h1 h63 hbytes h

/-- make([]T, n). -/
theorem run_mk (hel : ElT P t E z bytes) (kl kc : IntKind) (n : Nat) (hbytes : bytes * n ≤ 281474976710656) (h63 : n ≤ 9223372036854775807) (w : World) :
    (Instr.makeSlice t (.int kl (n : Int)) (.int kc (n : Int))).run P w = .ok (.slice (some ⟨w.heap.size, 0, none⟩) n n) (w.alloc (.cells (madeCells #[z] n) E)) :=
  run_make_row' t E z bytes hel.ht hel.hinfo hel.hz kl kc n hbytes h63 w

theorem own_made (w : World) (z : Value) (n : Nat) (h : n ≤ maxLen) : (w.alloc (.cells (madeCells #[z] n) E)).ownsRow 0 E 1 (.slice (some ⟨w.heap.size, 0, none⟩) n n) n (List.replicate n z) := by
  have := World.ownsRow_lit (base := 0) (e := E) (size := 1) w (madeCells #[z] n) n (Nat.zero_le _) h (by simp [size_madeCells])
  rwa [toList_madeCells_one] at this
end

/-! ### flat rows: bytes, ints -/

theorem Own_flatB {E : TypeId} {w : World} {v : Value} {xs : List UInt8} {F : List Nat} : Own E FB w v xs F ↔ w.ownsRow 0 E 1 v xs.length (xs.map fun x => Value.int .u8 (x.toNat : Int)) ∧ F = v.ownBlock.toList := by
  constructor
  · rintro ⟨cells, F', h1, h2, rfl⟩
    obtain ⟨rfl, rfl⟩ := AllR_FB.1 h2
    exact ⟨h1, by simp⟩
  · rintro ⟨h1, rfl⟩
    exact ⟨_, [], h1, AllR_FB.2 ⟨rfl, rfl⟩, by simp⟩

theorem Own_flatI {E : TypeId} {w : World} {v : Value} {xs : List Int} {F : List Nat} : Own E FI w v xs F ↔ w.ownsRow 0 E 1 v xs.length (xs.map fun x => Value.int .i64 x) ∧ F = v.ownBlock.toList := by
  constructor
  · rintro ⟨cells, F', h1, h2, rfl⟩
    obtain ⟨rfl, rfl⟩ := AllR_FI.1 h2
    exact ⟨h1, by simp⟩
  · rintro ⟨h1, rfl⟩
    exact ⟨_, [], h1, AllR_FI.2 ⟨rfl, rfl⟩, by simp⟩

theorem ownBlock_nodup (v : Value) : v.ownBlock.toList.Nodup := by
  cases v.ownBlock <;> simp

/-- A fresh row of bytes: of the call's own from B on. -/
theorem fresh_flatB {E : TypeId} {w w' : World} {v : Value} {xs : List UInt8} {n : Nat} {cells : List Value} (h : w'.ownsRow 0 E 1 v n cells) (hc : cells = xs.map fun x => Value.int .u8 (x.toNat : Int))
    (hB : ∀ b, v.ownBlock = some b → w.heap.size ≤ b) (hb : Below w.heap.size w w') : Fresh (Own E FB) w w' v xs := by
  subst hc
  have hl : n = xs.length := by simpa using h.1.symm
  subst hl
  exact ⟨v.ownBlock.toList, Own_flatB.2 ⟨h, rfl⟩, ownBlock_nodup v, fun b hb => hB b (by simpa using hb), hb⟩

theorem fresh_flatI {E : TypeId} {w w' : World} {v : Value} {xs : List Int} {n : Nat} {cells : List Value} (h : w'.ownsRow 0 E 1 v n cells) (hc : cells = xs.map fun x => Value.int .i64 x)
    (hB : ∀ b, v.ownBlock = some b → w.heap.size ≤ b) (hb : Below w.heap.size w w') : Fresh (Own E FI) w w' v xs := by
  subst hc
  have hl : n = xs.length := by simpa using h.1.symm
  subst hl
  exact ⟨v.ownBlock.toList, Own_flatI.2 ⟨h, rfl⟩, ownBlock_nodup v, fun b hb => hB b (by simpa using hb), hb⟩

/-- The cells of a slice that reads as bytes, as the source of an append. -/
theorem RdAt.srcB {w : World} {A : Option Addr} {n c : Nat} {xs : List UInt8} (h : RdAt RB w A n c xs) : Src w A n (xs.map fun x => Value.int .u8 (x.toNat : Int)) := by
  refine ⟨by simpa using h.1, fun hn => ?_⟩
  obtain ⟨b, off, hA, _, hc⟩ := h.2.2.2 hn
  refine ⟨b, off, hA, fun j u hu => ?_⟩
  rw [List.getElem?_map, Option.map_eq_some_iff] at hu
  obtain ⟨x, hx, rfl⟩ := hu
  obtain ⟨u, hu, hr⟩ := hc j x hx
  rw [hu, hr]

theorem RdAt.srcI {w : World} {A : Option Addr} {n c : Nat} {xs : List Int} (h : RdAt RI w A n c xs) : Src w A n (xs.map fun x => Value.int .i64 x) := by
  refine ⟨by simpa using h.1, fun hn => ?_⟩
  obtain ⟨b, off, hA, _, hc⟩ := h.2.2.2 hn
  refine ⟨b, off, hA, fun j u hu => ?_⟩
  rw [List.getElem?_map, Option.map_eq_some_iff] at hu
  obtain ⟨x, hx, rfl⟩ := hu
  obtain ⟨u, hu, hr⟩ := hc j x hx
  rw [hu, hr]

theorem one_mapB (xs : List UInt8) : ∀ u ∈ xs.map (fun x => Value.int .u8 (x.toNat : Int)), u.oneCell' = true := by
  intro u hu
  obtain ⟨x, _, rfl⟩ := List.mem_map.1 hu
  rfl
theorem one_mapI (xs : List Int) : ∀ u ∈ xs.map (fun x => Value.int .i64 x), u.oneCell' = true := by
  intro u hu
  obtain ⟨x, _, rfl⟩ := List.mem_map.1 hu
  rfl
theorem one_single (u : Value) (h : u.oneCell' = true) : ∀ x ∈ [u], x.oneCell' = true := by simpa using h

/-- Behind an append: what stood below B stands, and the row's block lies from B on. -/
theorem app_below {B : Nat} {a w w' : World} {v v' : Value} (h : Below B a w) (hB : B ≤ w.heap.size) (hv : ∀ b, v.ownBlock = some b → B ≤ b) (hg : w.grownBy w' v.ownBlock) (hat : v'.ownBlock = v.ownBlock ∨ v'.ownBlock = some w.heap.size) :
    Below B a w' ∧ ∀ b, v'.ownBlock = some b → B ≤ b := by
  refine ⟨h.grown hg hB (fun k hk => hv k hk), fun b hb => ?_⟩
  rcases hat with e | e
  · exact hv b (e ▸ hb)
  · rw [e] at hb
    injection hb with hb
    omega

theorem take_succ_get {α : Type} (xs : List α) (k : Nat) (x : α) (h : xs[k]? = some x) : xs.take (k + 1) = xs.take k ++ [x] := by
  rw [List.take_add_one, h]; rfl

theorem Iv_flatB {E : TypeId} {lo hi : Nat} {w : World} {v : Value} {xs : List UInt8} (h : Iv (Own E FB) lo hi w v xs) :
    (v = .slice none 0 0 ∧ xs = []) ∨ ∃ g cap, v = .slice (some ⟨g, 0, none⟩) xs.length cap ∧ xs.length ≤ cap ∧ cap ≤ maxLen ∧ lo ≤ g ∧ g < hi ∧
      w.ownsRow 0 E 1 (.slice (some ⟨g, 0, none⟩) xs.length cap) xs.length (xs.map fun x => Value.int .u8 (x.toNat : Int)) := by
  obtain ⟨F, h1, h2, h3⟩ := h
  obtain ⟨h4, rfl⟩ := Own_flatB.1 h1
  rcases h4.2 with ⟨rfl, h0⟩ | ⟨g, cap, cur, rfl, _, hg, hnc, hcm, _, _⟩
  · exact .inl ⟨rfl, List.eq_nil_of_length_eq_zero h0⟩
  · exact .inr ⟨g, cap, rfl, hnc, hcm, (h3 g (by simp [Value.ownBlock])).1, (h3 g (by simp [Value.ownBlock])).2, h4⟩

theorem Iv_mkB {E : TypeId} {lo hi : Nat} {w : World} {g n cap : Nat} {xs : List UInt8} {cells : List Value} (h : w.ownsRow 0 E 1 (.slice (some ⟨g, 0, none⟩) n cap) n cells) (hc : cells = xs.map fun x => Value.int .u8 (x.toNat : Int)) (h1 : lo ≤ g) (h2 : g < hi) :
    Iv (Own E FB) lo hi w (.slice (some ⟨g, 0, none⟩) n cap) xs := by
  subst hc
  have hl : n = xs.length := by simpa using h.1.symm
  subst hl
  exact ⟨[g], Own_flatB.2 ⟨h, rfl⟩, by simp, fun b hb => by simp at hb; subst hb; exact ⟨h1, h2⟩⟩

theorem Chg.setCell {lo hi : Nat} {a w : World} (h : Chg lo hi a w) {p : Addr} (h1 : lo ≤ p.block) (h2 : p.block < hi) (u : Value) : Chg lo hi a (w.setCell p u) :=
  h.trans ⟨rfl, rfl, rfl, by simp [World.setCell], fun k _ hn => Below.heap_setCell _ _ _ _ (fun e => hn (by subst e; exact ⟨h1, h2⟩))⟩

theorem Iv_flatI {E : TypeId} {lo hi : Nat} {w : World} {v : Value} {xs : List Int} (h : Iv (Own E FI) lo hi w v xs) :
    (v = .slice none 0 0 ∧ xs = []) ∨ ∃ g cap, v = .slice (some ⟨g, 0, none⟩) xs.length cap ∧ xs.length ≤ cap ∧ cap ≤ maxLen ∧ lo ≤ g ∧ g < hi ∧
      w.ownsRow 0 E 1 (.slice (some ⟨g, 0, none⟩) xs.length cap) xs.length (xs.map fun x => Value.int .i64 x) := by
  obtain ⟨F, h1, h2, h3⟩ := h
  obtain ⟨h4, rfl⟩ := Own_flatI.1 h1
  rcases h4.2 with ⟨rfl, h0⟩ | ⟨g, cap, cur, rfl, _, hg, hnc, hcm, _, _⟩
  · exact .inl ⟨rfl, List.eq_nil_of_length_eq_zero h0⟩
  · exact .inr ⟨g, cap, rfl, hnc, hcm, (h3 g (by simp [Value.ownBlock])).1, (h3 g (by simp [Value.ownBlock])).2, h4⟩

theorem Iv_mkI {E : TypeId} {lo hi : Nat} {w : World} {g n cap : Nat} {xs : List Int} {cells : List Value} (h : w.ownsRow 0 E 1 (.slice (some ⟨g, 0, none⟩) n cap) n cells) (hc : cells = xs.map fun x => Value.int .i64 x) (h1 : lo ≤ g) (h2 : g < hi) :
    Iv (Own E FI) lo hi w (.slice (some ⟨g, 0, none⟩) n cap) xs := by
  subst hc
  have hl : n = xs.length := by simpa using h.1.symm
  subst hl
  exact ⟨[g], Own_flatI.2 ⟨h, rfl⟩, by simp, fun b hb => by simp at hb; subst hb; exact ⟨h1, h2⟩⟩

theorem rd_rowI {E : TypeId} {w : World} {v : Value} {n : Nat} {cells : List Value} {xs : List Int} (h : w.ownsRow 0 E 1 v n cells) (hc : cells = xs.map fun x => Value.int .i64 x) : Rd RI w v xs := by
  subst hc
  have hl : n = xs.length := by simpa using h.1.symm
  subst hl
  exact (Own_flatI.2 ⟨h, rfl⟩).rd (fun k => k.ri)

theorem rd_rowB {E : TypeId} {w : World} {v : Value} {n : Nat} {cells : List Value} {xs : List UInt8} (h : w.ownsRow 0 E 1 v n cells) (hc : cells = xs.map fun x => Value.int .u8 (x.toNat : Int)) : Rd RB w v xs := by
  subst hc
  have hl : n = xs.length := by simpa using h.1.symm
  subst hl
  exact (Own_flatB.2 ⟨h, rfl⟩).rd (fun k => k.rb)

/-- A slice literal just built. -/
theorem Rd_lit {α : Type} {R : Rel α} (w : World) (cs : Array Value) (E : TypeId) (xs : List α) (hl : cs.size = xs.length) (h : ∀ (j : Nat) (x : α), xs[j]? = some x → ∃ u, cs[j]? = some u ∧ R (w.alloc (.cells cs E)) u x) (hm : cs.size ≤ maxLen) :
    Rd R (w.alloc (.cells cs E)) (.slice (some ⟨w.heap.size, 0, none⟩) cs.size cs.size) xs := by
  refine ⟨_, _, _, rfl, hl.symm, Nat.le_refl _, hm, fun _ => ⟨w.heap.size, 0, rfl, by simp, fun j x hx => ?_⟩⟩
  obtain ⟨u, hu, hr⟩ := h j x hx
  refine ⟨u, ?_, hr⟩
  rw [World.cell?_alloc_at _ _ _ _ rfl, Nat.zero_add]
  exact hu

theorem Rd_litI1 (w : World) (k : Int) (E : TypeId) : Rd RI (w.alloc (.cells #[.int .i64 k] E)) (.slice (some ⟨w.heap.size, 0, none⟩) 1 1) [k] :=
  Rd_lit w #[.int .i64 k] E [k] rfl (fun j x hx => by
    cases j with
    | zero => simp at hx; subst hx; exact ⟨_, rfl, rfl⟩
    | succ j => simp at hx) (by simp [maxLen])

theorem Rd_litI2 (w : World) (a b : Int) (E : TypeId) : Rd RI (w.alloc (.cells #[.int .i64 a, .int .i64 b] E)) (.slice (some ⟨w.heap.size, 0, none⟩) 2 2) [a, b] :=
  Rd_lit w #[.int .i64 a, .int .i64 b] E [a, b] rfl (fun j x hx => by
    match j with
    | 0 => simp at hx; subst hx; exact ⟨_, rfl, rfl⟩
    | 1 => simp at hx; subst hx; exact ⟨_, rfl, rfl⟩
    | j + 2 => simp at hx) (by simp [maxLen])

theorem Rd_lit3 {α : Type} {R : Rel α} (w : World) (u0 u1 u2 : Value) (E : TypeId) (x0 x1 x2 : α) (h0 : R (w.alloc (.cells #[u0, u1, u2] E)) u0 x0) (h1 : R (w.alloc (.cells #[u0, u1, u2] E)) u1 x1) (h2 : R (w.alloc (.cells #[u0, u1, u2] E)) u2 x2) :
    Rd R (w.alloc (.cells #[u0, u1, u2] E)) (.slice (some ⟨w.heap.size, 0, none⟩) 3 3) [x0, x1, x2] :=
  Rd_lit w #[u0, u1, u2] E [x0, x1, x2] rfl (fun j x hx => by
    match j with
    | 0 => simp at hx; subst hx; exact ⟨_, rfl, h0⟩
    | 1 => simp at hx; subst hx; exact ⟨_, rfl, h1⟩
    | 2 => simp at hx; subst hx; exact ⟨_, rfl, h2⟩
    | j + 3 => simp at hx) (by simp [maxLen])

theorem below_alloc (w : World) (o : Obj) : Below w.heap.size w (w.alloc o) := (Below.refl _ _).alloc (Nat.le_refl _) o

theorem toBelow {P : Program} {f : FuncId} {args : Array Value} {w : World} {E : Ending} (h : Calls P f args w fun e w' => e = E ∧ w = w') : Calls P f args w fun e w' => e = E ∧ Below w.heap.size w w' :=
  h.mono fun _ _ ⟨h1, h2⟩ => ⟨h1, h2 ▸ Below.refl _ _⟩

theorem run_eql_sl {P : Program} (t e : TypeId) (a : Option Addr) (l c : Nat) (h : P.underlying t = some (.slice e)) (w : World) : (binOp .eql t (.slice a l c) (.slice none 0 0)).run P w = .ok (.bool a.isNone) w := by
  have hq : ∀ d : Nat, (Op.equalIn (d + 1) t (.slice a l c) (.slice none 0 0)).run P w = .ok a.isNone w := fun d => by cases a <;> simp [Op.equalIn, run_underlying h]
  simp only [binOp]
  simp [Op.equal, Op.maxDepth, hq 9999]

theorem fresh_form {E : TypeId} {w w' : World} {v : Value} {xs : List UInt8} (h : Fresh (Own E FB) w w' v xs) :
    (v = .slice none 0 0 ∧ xs = []) ∨ ∃ g cap, v = .slice (some ⟨g, 0, none⟩) xs.length cap ∧ xs.length ≤ cap ∧ cap ≤ maxLen ∧ w.heap.size ≤ g ∧
      w'.ownsRow 0 E 1 (.slice (some ⟨g, 0, none⟩) xs.length cap) xs.length (xs.map fun x => Value.int .u8 (x.toNat : Int)) := by
  rcases Iv_flatB (h.iv (Own_good FB_good)) with h0 | ⟨g, cap, h1, h2, h3, h4, _, h6⟩
  · exact .inl h0
  · exact .inr ⟨g, cap, h1, h2, h3, h4, h6⟩

theorem Iv.drew {α : Type} {R : FRel α} (hR : Good R) {lo hi : Nat} {w : World} {v : Value} {x : α} (h : Iv R lo hi w v x) : Iv R lo hi w.drew v x := by
  obtain ⟨F, h1, h2, h3⟩ := h
  exact ⟨F, hR.stab h1 (fun _ _ => rfl), h2, h3⟩
theorem fresh_slice {α : Type} {E : TypeId} {R : FRel α} {w w' : World} {v : Value} {x : List α} (h : Fresh (Own E R) w w' v x) : ∃ A l c, v = .slice A l c := by
  obtain ⟨F, ⟨cells, F', h1, _, _⟩, _⟩ := h
  rcases h1.2 with ⟨rfl, _⟩ | ⟨g, cap, cur, rfl, _⟩
  · exact ⟨_, _, _, rfl⟩
  · exact ⟨_, _, _, rfl⟩

/-- A value in blocks from lo on, made since w; below lo the call's own boxes may still be written. -/
def FreshG {α : Type} (R : FRel α) (w : World) (lo : Nat) (w' : World) (v : Value) (x : α) : Prop :=
  ∃ F, R w' v x F ∧ F.Nodup ∧ (∀ b, b ∈ F → lo ≤ b) ∧ Below w.heap.size w w'

theorem Fresh.g {α : Type} {R : FRel α} {w W w' : World} {v : Value} {x : α} (h : Fresh R W w' v x) (hb : Below w.heap.size w W) : FreshG R w W.heap.size w' v x := by
  obtain ⟨F, h1, h2, h3, h4⟩ := h
  exact ⟨F, h1, h2, h3, hb.trans (h4.mono hb.size)⟩

theorem FreshG.set {α : Type} {R : FRel α} (hR : Good R) {w w' : World} {lo : Nat} {v : Value} {x : α} (h : FreshG R w lo w' v x) {p : Addr} (h1 : w.heap.size ≤ p.block) (h2 : p.block < lo) (u : Value) : FreshG R w lo (w'.setCell p u) v x := by
  obtain ⟨F, k1, k2, k3, k4⟩ := h
  exact ⟨F, hR.stab k1 (fun b hb => Below.heap_setCell _ _ _ _ (by have := k3 b hb; omega)), k2, k3, k4.setCell h1 u⟩

theorem FreshG.alloc {α : Type} {R : FRel α} (hR : Good R) {w w' : World} {lo : Nat} {v : Value} {x : α} (h : FreshG R w lo w' v x) (o : Obj) : FreshG R w lo (w'.alloc o) v x := by
  obtain ⟨F, k1, k2, k3, k4⟩ := h
  exact ⟨F, hR.stab k1 (fun b hb => Below.heap_alloc _ _ _ (hR.lt k1 b hb)), k2, k3, k4.alloc k4.size o⟩

theorem FreshG.drew {α : Type} {R : FRel α} (hR : Good R) {w w' : World} {lo : Nat} {v : Value} {x : α} (h : FreshG R w lo w' v x) : FreshG R w lo w'.drew v x := by
  obtain ⟨F, k1, k2, k3, k4⟩ := h
  exact ⟨F, hR.stab k1 (fun _ _ => rfl), k2, k3, k4.drew⟩

theorem FreshG.fresh {α : Type} {R : FRel α} {w w' : World} {lo : Nat} {v : Value} {x : α} (h : FreshG R w lo w' v x) (hlo : w.heap.size ≤ lo) : Fresh R w w' v x := by
  obtain ⟨F, k1, k2, k3, k4⟩ := h
  exact ⟨F, k1, k2, fun b hb => Nat.le_trans hlo (k3 b hb), k4⟩

theorem own_shape {w : World} {B : Nat} {E : TypeId} {size n : Nat} {v : Value} {cells : List Value} (h : w.ownsRow B E size v n cells) : ∃ A l c, v = .slice A l c := by
  rcases h.2 with ⟨rfl, _⟩ | ⟨g, cap, cur, rfl, _⟩
  · exact ⟨_, _, _, rfl⟩
  · exact ⟨_, _, _, rfl⟩

/-- A box of the call's own: its block, whole. -/
def Box (w : World) (g : Nat) (t : TypeId) (cs : Array Value) : Prop := w.heap[g]? = some (.cells cs t (0, 0))
theorem Box.lt {w : World} {g : Nat} {t : TypeId} {cs : Array Value} (h : Box w g t cs) : g < w.heap.size := (Array.getElem?_eq_some_iff.1 h).1
theorem Box.cell {w : World} {g : Nat} {t : TypeId} {cs : Array Value} (h : Box w g t cs) (i : Nat) : w.cell? ⟨g, i, none⟩ = cs[i]? := cell_of_row w g i cs t (0, 0) h
theorem Box.frozen {w : World} {g : Nat} {t : TypeId} {cs : Array Value} (h : Box w g t cs) (i : Nat) : w.frozen? ⟨g, i, none⟩ = false := frozen_of_row w g i cs t h
theorem Box.new (w : World) (t : TypeId) (cs : Array Value) : Box (w.alloc (.cells cs t)) w.heap.size t cs := heap_alloc_new w _
theorem Box.alloc {w : World} {g : Nat} {t : TypeId} {cs : Array Value} (h : Box w g t cs) (o : Obj) : Box (w.alloc o) g t cs := (Below.heap_alloc w o g h.lt).trans h
theorem Box.set_ {w : World} {g : Nat} {t : TypeId} {cs : Array Value} (h : Box w g t cs) (i : Nat) (u : Value) : Box (w.setCell ⟨g, i, none⟩ u) g t (cs.setIfInBounds i u) := heap_setCell_same w g i cs t u h
theorem Box.far {w : World} {g : Nat} {t : TypeId} {cs : Array Value} (h : Box w g t cs) {p : Addr} (hp : g ≠ p.block) (u : Value) : Box (w.setCell p u) g t cs := (Below.heap_setCell w p u g hp).trans h
theorem Box.below {w w' : World} {B g : Nat} {t : TypeId} {cs : Array Value} (h : Box w g t cs) (hb : Below B w w') (hg : g < B) : Box w' g t cs := (hb.block g hg).trans h
theorem Box.grown {w w' : World} {g : Nat} {t : TypeId} {cs : Array Value} {row : Option Nat} (h : Box w g t cs) (hb : w.grownBy w' row) (hg : some g ≠ row) : Box w' g t cs := (hb.block g h.lt hg).trans h

end Go.Proofs.Ytokhogdocaeelaa
