/- JoinWrites, ExplainWrite: what they compute, plain; and the boxes that their loops keep. -/
import Derived.Test.YtokhogdocaeelaaDbs
import Derived.Test.YtokhogdocaeelaaXdb
import Derived.Test.YtokhogdocaeelaaXdbS
import Derived.Test.YtokhogdocaeelaaRep
import Derived.Test.YtokhogdocaeelaaCopy
import Derived.Test.YtokhogdocaeelaaCnt
import Derived.Test.YtokhogdocaeelaaBoxes
import Derived.Test.YtokhogdocaeelaaKeep
namespace Go.Proofs.Ytokhogdocaeelaa
set_option linter.unusedVariables false
open Go.RowKit

abbrev Db := List (List UInt8)
def xfold (d : Db) : List Db → Option Db
  | [] => some d
  | s :: t => if xdOk d s then xfold (xorDb d s) t else none
theorem xfold_cons (d s : Db) (t : List Db) : xfold d (s :: t) = if xdOk d s then xfold (xorDb d s) t else none := rfl
theorem xfold_app (d : Db) (a b : List Db) : xfold d (a ++ b) = (xfold d a).bind (fun D => xfold D b) := by
  induction a generalizing d with
  | nil => rfl
  | cons s t ih =>
    rw [List.cons_append, xfold_cons, xfold_cons]
    split
    · exact ih _
    · rfl
theorem xfold_yes {d D s : Db} {l : List Db} {k : Nat} (h : xfold d (l.take k) = some D) (hs : l[k]? = some s) (ho : xdOk D s = true) : xfold d (l.take (k + 1)) = some (xorDb D s) := by
  rw [take_succ_get l k s hs, xfold_app, h]
  show xfold D [s] = _
  unfold xfold
  rw [if_pos ho]
  rfl
theorem xfold_no {d D s : Db} {l : List Db} {k : Nat} (h : xfold d (l.take k) = some D) (hs : l[k]? = some s) (ho : xdOk D s = false) : xfold d l = none := by
  have e : l = l.take (k + 1) ++ l.drop (k + 1) := (List.take_append_drop _ _).symm
  have h1 : xfold d (l.take (k + 1)) = none := by
    rw [take_succ_get l k s hs, xfold_app, h]
    show xfold D [s] = _
    unfold xfold
    rw [if_neg (by rw [ho]; simp)]
  rw [e, xfold_app, h1]
  rfl
theorem db_tot {d : Db} (h : dbOk d = true) : tot d ≤ 1600 := by
  unfold dbOk at h
  simp only [Bool.and_eq_true, decide_eq_true_eq, Bool.not_eq_true', List.any_eq_false, bne_iff_ne, ne_eq, Decidable.not_not] at h
  obtain ⟨h1, h2⟩ := h
  have : sumL d = d.length * 24 := by
    clear h1
    induction d with
    | nil => rfl
    | cons x t ih =>
      have e := h2 x (List.mem_cons_self ..)
      have e2 := ih (fun y hy => h2 y (List.mem_cons_of_mem _ hy))
      simp [sumL] at *
      omega
  unfold tot
  omega
theorem xd_parts {a b : Db} (h : xdOk a b = true) : dbOk a = true ∧ dbOk b = true ∧ a.length = b.length := by
  unfold xdOk at h
  simp only [Bool.and_eq_true, decide_eq_true_eq] at h
  exact ⟨h.1, h.2.1, h.2.2⟩
theorem xd_valid {a b : Db} (h : xdOk a b = true) : dbOk (xorDb a b) = true := by
  obtain ⟨ha, hb, hl⟩ := xd_parts h
  unfold xorDb
  rw [if_pos h]
  unfold dbOk at *
  simp only [Bool.and_eq_true, decide_eq_true_eq, Bool.not_eq_true', List.any_eq_false, bne_iff_ne, ne_eq, Decidable.not_not] at *
  refine ⟨by rw [List.length_zipWith]; omega, fun x hx => ?_⟩
  obtain ⟨k, hk, he⟩ := List.getElem_of_mem hx
  rw [List.getElem_zipWith] at he
  rw [← he, xorB_len, ha.2 _ (List.getElem_mem _), hb.2 _ (List.getElem_mem _)]
  rfl
theorem xd_tot {a b : Db} (h : xdOk a b = true) : tot (xorDb a b) ≤ 1600 := db_tot (xd_valid h)
def jw (l : List Db) : Option Db := if 2 ≤ l.length ∧ l.length ≤ 4 then (match l with | [] => none | d :: t => xfold d t) else none
theorem jw_no {l : List Db} (h : ¬ (2 ≤ l.length ∧ l.length ≤ 4)) : jw l = none := by unfold jw; rw [if_neg h]
theorem jw_yes {l : List Db} {d : Db} (h : 2 ≤ l.length ∧ l.length ≤ 4) (hd : l[0]? = some d) : jw l = xfold d (l.drop 1) := by
  unfold jw
  rw [if_pos h]
  cases l with
  | nil => simp at hd
  | cons e t => simp at hd; subst hd; rfl
theorem xfold_bd {d D : Db} {l : List Db} (h : xfold d l = some D) (hl : l ≠ []) : tot D ≤ 1600 := by
  induction l generalizing d with
  | nil => exact absurd rfl hl
  | cons s t ih =>
    unfold xfold at h
    split at h
    · rename_i ho
      cases t with
      | nil =>
        unfold xfold at h
        injection h with h
        subst h
        exact xd_tot ho
      | cons s2 t2 => exact ih h (by simp)
    · cases h
theorem jw_bd (l : List Db) : sumL ((jw l).getD []) ≤ 1600 := by
  by_cases h : 2 ≤ l.length ∧ l.length ≤ 4
  · match l, h with
    | d :: s :: t, h =>
      have e : jw (d :: s :: t) = xfold d (s :: t) := jw_yes (l := d :: s :: t) h rfl
      rw [e]
      cases hx : xfold d (s :: t) with
      | none => simp [sumL]
      | some D =>
        have := xfold_bd hx (by simp)
        have := sumL_le D
        simp
        omega
  · rw [jw_no h]; simp [sumL]
theorem fresh_nilDB (w w' : World) (hb : Below w.heap.size w w') : Fresh OBB w w' (.slice none 0 0) ([] : Db) :=
  ⟨[], ⟨[], [], World.ownsRow_nil _ _ _ _, rfl, rfl⟩, by simp, by simp, hb⟩
/-- The result's box, the running value's box at g, and the running value. -/
structure JS (w : World) (g : Nat) (W : World) (A : Option Addr) (l c : Nat) (D : Db) : Prop where
  r : Box W w.heap.size 31 #[.slice none 0 0]
  b : Box W g 31 #[.slice A l c]
  ne : w.heap.size < g
  t : Below w.heap.size w W
  o : ∃ F, OBB W (.slice A l c) D F ∧ F.Nodup ∧ ∀ q, q ∈ F → w.heap.size + 1 ≤ q ∧ q ≠ g
theorem JS.step {w W W' : World} {g : Nat} {A : Option Addr} {l c : Nat} {D : Db} (h : JS w g W A l c D) (hb : Below W.heap.size W W') : JS w g W' A l c D := by
  obtain ⟨F, f1, f2, f3⟩ := h.o
  exact ⟨h.r.below hb h.r.lt, h.b.below hb h.b.lt, h.ne, h.t.trans (hb.mono h.t.size), F, OBB_good.stab f1 (fun q hq => hb.block q (OBB_good.lt f1 q hq)), f2, f3⟩
theorem JS.rd {w W : World} {g : Nat} {A : Option Addr} {l c : Nat} {D : Db} (h : JS w g W A l c D) : Rd (Rd RB) W (.slice A l c) D := by
  obtain ⟨F, f1, _, _⟩ := h.o
  exact own_rdBB f1
theorem JS.next {w W W1 W2 : World} {g : Nat} {A A2 : Option Addr} {l c l2 c2 : Nat} {D D2 : Db} (h : JS w g W A l c D) (h1 : Below W.heap.size W W1) (hF : Fresh OBB W1 W2 (.slice A2 l2 c2) D2) (W3 : World) (h3 : Below W2.heap.size W2 W3) : JS w g (W3.setCell ⟨g, 0, none⟩ (.slice A2 l2 c2)) A2 l2 c2 D2 := by
  have hb2 := hF.below
  have s1 := h1.size
  have hg := h.b.lt
  have k := (h.step (h1.trans (hb2.mono s1))).step h3
  obtain ⟨F, f1, f2, f3, _⟩ := hF
  refine ⟨k.r.far (p := ⟨g, 0, none⟩) (Nat.ne_of_lt h.ne) _, k.b.set_ 0 _, h.ne, k.t.setCell (Nat.le_of_lt h.ne) _, F, OBB_good.stab f1 (fun q hq => ?_), f2, fun q hq => ?_⟩
  · have a := OBB_good.lt f1 q hq
    have b := f3 q hq
    rw [Below.heap_setCell _ _ _ _ (by show q ≠ g; omega)]
    exact h3.block q a
  · have b := f3 q hq
    have := h.t.size
    have := h.r.lt
    omega
theorem JS.next2 {w W W1 W2 W3 : World} {g : Nat} {A A2 : Option Addr} {l c l2 c2 : Nat} {D D2 : Db} (h : JS w g W A l c D) (h1 : W.heap.size ≤ W1.heap.size) (hF : Fresh OBB W1 W2 (.slice A2 l2 c2) D2) (hW : Below W.heap.size W W3) (hk : ∀ q, W1.heap.size ≤ q → q < W2.heap.size → W3.heap[q]? = W2.heap[q]?) : JS w g (W3.setCell ⟨g, 0, none⟩ (.slice A2 l2 c2)) A2 l2 c2 D2 := by
  have hg := h.b.lt
  have k := h.step hW
  obtain ⟨F, f1, f2, f3, _⟩ := hF
  refine ⟨k.r.far (p := ⟨g, 0, none⟩) (Nat.ne_of_lt h.ne) _, k.b.set_ 0 _, h.ne, k.t.setCell (Nat.le_of_lt h.ne) _, F, OBB_good.stab f1 (fun q hq => ?_), f2, fun q hq => ?_⟩
  · have a := OBB_good.lt f1 q hq
    have b := f3 q hq
    rw [Below.heap_setCell _ _ _ _ (by show q ≠ g; omega)]
    exact hk q b a
  · have b := f3 q hq
    have := h.r.lt
    omega
theorem JS.fin {w W : World} {g : Nat} {A : Option Addr} {l c : Nat} {D : Db} (h : JS w g W A l c D) : Fresh OBB w (W.setCell ⟨w.heap.size, 0, none⟩ (.slice A l c)) (.slice A l c) D := by
  obtain ⟨F, f1, f2, f3⟩ := h.o
  exact ⟨F, OBB_good.stab f1 (fun q hq => Below.heap_setCell _ _ _ _ (by have := f3 q hq; show q ≠ w.heap.size; omega)), f2, fun q hq => by have := f3 q hq; omega, h.t.setCell (Nat.le_refl _) _⟩
theorem JS.nil {w W : World} {g : Nat} {A : Option Addr} {l c : Nat} {D : Db} (h : JS w g W A l c D) : Fresh OBB w (W.setCell ⟨w.heap.size, 0, none⟩ (.slice none 0 0)) (.slice none 0 0) ([] : Db) := fresh_nilDB _ _ (h.t.setCell (Nat.le_refl _) _)
/-- The first value, just made and boxed. -/
theorem JS.start {w W W1 : World} {A : Option Addr} {l c : Nat} {D : Db} (hr : Box W w.heap.size 31 #[.slice none 0 0]) (ht : Below w.heap.size w W) (hF : Fresh OBB W W1 (.slice A l c) D) : JS w W1.heap.size (W1.alloc (.cells #[.slice A l c] 31)) A l c D := by
  have hb := hF.below
  have hs := hb.size
  have hl := hr.lt
  obtain ⟨F, f1, f2, f3, _⟩ := hF
  refine ⟨(hr.below hb hl).alloc _, Box.new W1 _ _, by omega, (ht.trans (hb.mono ht.size)).alloc (by omega) _, F, OBB_good.stab f1 (fun q hq => Below.heap_alloc _ _ _ (OBB_good.lt f1 q hq)), f2, fun q hq => ?_⟩
  have a := OBB_good.lt f1 q hq
  have b := f3 q hq
  omega
/-- An element of a list of databases, as the loop loads it. -/
theorem dbs_at {w : World} {A : Option Addr} {n c : Nat} {xs : List Db} (h : RdAt (Rd (Rd RB)) w A n c xs) {k : Nat} (hk : k < n) : ∃ b off x B m d, A = some ⟨b, off, none⟩ ∧ b < w.heap.size ∧ xs[k]? = some x ∧ w.cell? ⟨b, off + k, none⟩ = some (.slice B m d) ∧ Rd (Rd RB) w (.slice B m d) x := by
  obtain ⟨b, off, x, u, hA, hb, hx, hu, hr⟩ := h.at_ hk
  obtain ⟨B, m, d, rfl, hr'⟩ := hr
  exact ⟨b, off, x, B, m, d, hA, hb, hx, hu, ⟨_, _, _, rfl, hr'⟩⟩
end Go.Proofs.Ytokhogdocaeelaa
