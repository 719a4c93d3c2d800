/- Rows of bytes add up: plain algebra of xorB and xorAll, and the plain law of Shares. -/
import Derived.Test.YtceogegjghmonaaRf
namespace Go.Proofs.Ytceogegjghmonaa
set_option linter.unusedVariables false
open Go.RowKit

theorem xorAll_fold (l : List (List UInt8)) (a : List UInt8) : l.foldl xorB a = xorB a (xorAll l) := by
  induction l generalizing a with
  | nil => simp [xorAll, xorB_nil]
  | cons x l ih =>
    have e1 : (x :: l).foldl xorB a = l.foldl xorB (xorB a x) := rfl
    have e2 : xorAll (x :: l) = l.foldl xorB x := rfl
    rw [e1, e2, ih, ih x, xorB_assoc]
theorem xorAll_cons (x : List UInt8) (l : List (List UInt8)) : xorAll (x :: l) = xorB x (xorAll l) := by
  show l.foldl xorB (xorB [] x) = _
  exact xorAll_fold l x
theorem xorAll_append (a b : List (List UInt8)) : xorAll (a ++ b) = xorB (xorAll a) (xorAll b) := by
  show (a ++ b).foldl xorB [] = _
  rw [List.foldl_append, xorAll_fold]
  rfl
theorem foldX_eq (x : List UInt8) (ls : List (List UInt8)) : foldX x ls = xorB x (xorAll ls) := xorAll_fold ls x
/-- Rows of n bytes each. -/
def LenB (n : Nat) (l : List (List UInt8)) : Prop := ∀ x ∈ l, x.length = n
theorem LenB.le {n : Nat} {l : List (List UInt8)} (h : LenB n l) : (xorAll l).length ≤ n := by
  induction l with
  | nil => simp [xorAll]
  | cons x l ih =>
    rw [xorAll_cons, xorB_len]
    have h1 := h x (by simp)
    have h2 := ih (fun y hy => h y (by simp [hy]))
    omega
theorem LenB.eq {n : Nat} {l : List (List UInt8)} (h : LenB n l) (hne : 0 < l.length) : (xorAll l).length = n := by
  cases l with
  | nil => simp at hne
  | cons x l =>
    rw [xorAll_cons, xorB_len]
    have h1 := h x (by simp)
    have h2 := LenB.le (l := l) (n := n) (fun y hy => h y (by simp [hy]))
    omega
theorem xor_back {a b : List UInt8} (h : a.length ≤ b.length) : xorB a (xorB b a) = b := by
  rw [xorB_comm b a, ← xorB_assoc, xorB_self, xorB_zero _ _ h]
theorem xor_back2 {a b : List UInt8} (h : a.length ≤ b.length) : xorB (xorB a b) a = b := by
  rw [xorB_comm (xorB a b) a, ← xorB_assoc, xorB_self, xorB_zero _ _ h]
theorem xor4 (a b c d : List UInt8) : xorB (xorB a b) (xorB c d) = xorB (xorB a c) (xorB b d) := by
  rw [xorB_assoc, xorB_assoc, ← xorB_assoc b c d, xorB_comm b c, xorB_assoc c b d]
theorem zip_all (a b : List (List UInt8)) (h : a.length = b.length) : xorAll (List.zipWith xorB a b) = xorB (xorAll a) (xorAll b) := by
  induction a generalizing b with
  | nil => cases b with
    | nil => rfl
    | cons y b => simp at h
  | cons x a ih => cases b with
    | nil => simp at h
    | cons y b =>
      simp at h
      rw [List.zipWith_cons_cons, xorAll_cons, xorAll_cons, xorAll_cons, ih b h, xor4]

theorem sb_yes {xs : List UInt8} {seeds : List Int} (h : sbOk xs seeds = true) : sb xs seeds = strs xs.length seeds ++ [foldX xs (strs xs.length seeds)] := by unfold sb; rw [h]; rfl
theorem sbOk_of {xs : List UInt8} {seeds : List Int} (h1 : 1 ≤ seeds.length) (h2 : seeds.length ≤ 3) (h3 : xs.length ≤ 400) : sbOk xs seeds = true := by
  unfold sbOk
  rw [decide_eq_true ⟨h1, h2⟩, decide_eq_true h3]
  rfl
theorem strs_Len {n : Nat} (seeds : List Int) (hn : n ≤ 400) : LenB n (strs n seeds) := fun x hx => by
  simp only [strs, List.mem_map] at hx
  obtain ⟨s, _, rfl⟩ := hx
  unfold streamI
  rw [if_pos ⟨by omega, by omega⟩, Int.toNat_natCast]
  exact stream_len s n
theorem foldX_Len {n : Nat} {x : List UInt8} {l : List (List UInt8)} (hx : x.length = n) (h : LenB n l) : (foldX x l).length = n := by
  rw [foldX_eq, xorB_len]
  have := h.le
  omega
theorem LenB.snoc {n : Nat} {x : List UInt8} {l : List (List UInt8)} (h : LenB n l) (hx : x.length = n) : LenB n (l ++ [x]) := fun y hy => by
  rcases List.mem_append.1 hy with hy | hy
  · exact h y hy
  · simp at hy; rw [hy]; exact hx
theorem sb_Len {xs : List UInt8} {seeds : List Int} (h : sbOk xs seeds = true) (hl : xs.length ≤ 400) : LenB xs.length (sb xs seeds) := by
  rw [sb_yes h]
  exact (strs_Len seeds hl).snoc (foldX_Len rfl (strs_Len seeds hl))
theorem sb_cnt {xs : List UInt8} {seeds : List Int} (h : sbOk xs seeds = true) : (sb xs seeds).length = seeds.length + 1 := by
  rw [sb_yes h]
  simp [strs]
theorem sb_all {xs : List UInt8} {seeds : List Int} (h : sbOk xs seeds = true) (hl : xs.length ≤ 400) : xorAll (sb xs seeds) = xs := by
  rw [sb_yes h, xorAll_snoc, foldX_eq]
  exact xor_back (strs_Len seeds hl).le
theorem hdB_Len {n : Nat} {l : List (List UInt8)} (h : LenB n l) (hne : 0 < l.length) : hdB l = n := by
  cases l with
  | nil => simp at hne
  | cons x l => exact h x (by simp)
theorem jsOk_Len {n : Nat} {l : List (List UInt8)} (h : LenB n l) (h1 : 2 ≤ l.length) (h2 : l.length ≤ 4) : jsOk l = true := by
  rw [jsOk_of ⟨h1, h2⟩, hdB_Len h (by omega), Bool.not_eq_true', List.any_eq_false]
  intro x hx
  rw [neL_f (h x hx)]
  simp
theorem rf_law {xs : List UInt8} {seeds fresh : List Int} (h : sbOk xs seeds = true) (hl : xs.length ≤ 400) (h1 : 1 ≤ seeds.length) (h2 : seeds.length ≤ 3) (hf : fresh.length = seeds.length) :
    rfOk (sb xs seeds) fresh = true ∧ jsOk (rf (sb xs seeds) fresh) = true ∧ jsh (rf (sb xs seeds) fresh) = xs ∧ LenB xs.length (rf (sb xs seeds) fresh) ∧ (rf (sb xs seeds) fresh).length = seeds.length + 1 := by
  have hL := sb_Len h hl
  have hc := sb_cnt h
  have hj := jsOk_Len hL (by omega) (by omega)
  have hd := hdB_Len hL (by omega)
  have hz : zsh (sb xs seeds) fresh = sb (List.replicate xs.length 0) fresh := by unfold zsh; rw [hd]
  have hzok : sbOk (List.replicate xs.length 0) fresh = true := sbOk_of (by omega) (by omega) (by simpa using hl)
  have hzL := sb_Len hzok (by simpa using hl)
  have hzc := sb_cnt hzok
  have hza := sb_all hzok (by simpa using hl)
  simp only [List.length_replicate] at hzL
  have ok : rfOk (sb xs seeds) fresh = true := by
    unfold rfOk
    rw [hj, decide_eq_true (show fresh.length + 1 = (sb xs seeds).length by omega), decide_eq_true (show hdB (sb xs seeds) ≤ 400 by omega)]
    rfl
  have e : rf (sb xs seeds) fresh = List.zipWith xorB (sb xs seeds) (sb (List.replicate xs.length 0) fresh) := by
    rw [rf_yes ok]
    unfold rfV
    rw [hz]
  have hn : (List.zipWith xorB (sb xs seeds) (sb (List.replicate xs.length 0) fresh)).length = seeds.length + 1 := by rw [List.length_zipWith]; omega
  have hLr : LenB xs.length (List.zipWith xorB (sb xs seeds) (sb (List.replicate xs.length 0) fresh)) := fun x hx => by
    obtain ⟨k, hk⟩ := List.mem_iff_getElem?.1 hx
    rw [List.getElem?_zipWith] at hk
    cases ha : (sb xs seeds)[k]? with
    | none => rw [ha] at hk; simp at hk
    | some a => cases hb : (sb (List.replicate xs.length 0) fresh)[k]? with
      | none => rw [ha, hb] at hk; simp at hk
      | some b =>
        rw [ha, hb] at hk
        simp at hk
        rw [← hk, xorB_len, hL a (List.mem_of_getElem? ha), hzL b (List.mem_of_getElem? hb), Nat.max_self]
  rw [e]
  have hj2 := jsOk_Len hLr (by omega) (by omega)
  refine ⟨ok, hj2, ?_, hLr, hn⟩
  rw [jsh_yes hj2, zip_all _ _ (by omega), sb_all h hl, hza, xorB_comm, xorB_zero _ _ (Nat.le_refl _)]

/-- The list without its o-th element. -/
def without {α : Type} (q : List α) (o : Nat) : List α := q.take o ++ q.drop (o + 1)
theorem without_len {α : Type} {q : List α} {o : Nat} (ho : o < q.length) : (without q o).length + 1 = q.length := by
  unfold without
  rw [List.length_append, List.length_take, List.length_drop]
  omega
theorem without_mem {α : Type} {q : List α} {o : Nat} {x : α} (h : x ∈ without q o) : x ∈ q := by
  rcases List.mem_append.1 h with h | h
  · exact List.mem_of_mem_take h
  · exact List.mem_of_mem_drop h
theorem without_all {l : List (List UInt8)} {k : Nat} {x : List UInt8} (hx : l[k]? = some x) : xorAll l = xorB (xorAll (without l k)) x := by
  have hk := (List.getElem?_eq_some_iff.1 hx)
  obtain ⟨hk, hv⟩ := hk
  have e : l = l.take k ++ (x :: l.drop (k + 1)) := by
    rw [← hv, List.getElem_cons_drop, List.take_append_drop]
  have e2 : xorAll l = xorB (xorAll (l.take k)) (xorB x (xorAll (l.drop (k + 1)))) := by
    conv => lhs; rw [e]
    rw [xorAll_append, xorAll_cons]
  rw [e2]
  unfold without
  rw [xorAll_append, xorB_comm x, xorB_assoc]
/-- Without one share every secret is possible. -/
theorem missing_law {l : List (List UInt8)} {n k : Nat} {x b o : List UInt8} (hL : LenB n l) (h2 : 2 ≤ l.length) (h4 : l.length ≤ 4) (hx : l[k]? = some x) (hb : xorAll l = b) (ho : o.length = n) :
    jsOk (without l k ++ [xorB o (xorAll (without l k))]) = true ∧ jsh (without l k ++ [xorB o (xorAll (without l k))]) = o ∧ xorB b (xorAll (without l k)) = x := by
  have hk := (List.getElem?_eq_some_iff.1 hx).1
  have hwl := without_len hk
  have hwL : LenB n (without l k) := fun y hy => hL y (without_mem hy)
  have hle := hwL.le
  have hj := jsOk_Len (hwL.snoc (x := xorB o (xorAll (without l k))) (by rw [xorB_len]; omega)) (by simp; omega) (by simp; omega)
  refine ⟨hj, ?_, ?_⟩
  · rw [jsh_yes hj, xorAll_snoc]
    exact xor_back (by omega)
  · rw [← hb, without_all hx, xorB_comm (xorAll (without l k)) x, xorB_assoc, xorB_self, xorB_comm, xorB_zero]
    have := hL x (List.mem_of_getElem? hx)
    omega
end Go.Proofs.Ytceogegjghmonaa
