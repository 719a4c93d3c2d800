/- The plain laws of private writing: the shares of a write add up to it. -/
import Derived.Test.YtokhogdocaeelaaMwP
import Derived.Test.YtokhogdocaeelaaJwP
namespace Go.Proofs.Ytokhogdocaeelaa
set_option linter.unusedVariables false
open Go.RowKit

def zx (a b : Db) : Db := List.zipWith xorB a b
def Zn (n : Nat) : Db := List.replicate n zcell
def VD (n : Nat) (d : Db) : Prop := dbOk d = true ∧ d.length = n
theorem VD.row {n : Nat} {d : Db} (h : VD n d) {x : List UInt8} (hx : x ∈ d) : x.length = 24 := by
  have := h.1
  unfold dbOk at this
  simp only [Bool.and_eq_true, decide_eq_true_eq, Bool.not_eq_true', List.any_eq_false, bne_iff_ne, ne_eq, Decidable.not_not] at this
  exact this.2 x hx
theorem VD.x {n : Nat} {a b : Db} (ha : VD n a) (hb : VD n b) : xdOk a b = true ∧ xorDb a b = zx a b ∧ VD n (zx a b) := by
  have o := xd_of ha.1 hb.1 (ha.2.trans hb.2.symm)
  have e : xorDb a b = zx a b := by unfold xorDb; rw [if_pos o]; rfl
  exact ⟨o, e, by rw [← e]; exact xd_valid o, by rw [← e, xorDb_len o]; exact ha.2⟩
theorem zx_comm (a b : Db) : zx a b = zx b a := by
  unfold zx
  rw [List.zipWith_comm]
  congr 1
  funext x y
  exact xorB_comm y x
theorem zx_assoc (a b c : Db) : zx (zx a b) c = zx a (zx b c) := by
  unfold zx
  induction a generalizing b c with
  | nil => simp
  | cons x a ih =>
    cases b with
    | nil => simp
    | cons y b =>
      cases c with
      | nil => simp
      | cons z c => simp only [List.zipWith_cons_cons, xorB_assoc, ih]
theorem zx_zero {n : Nat} {a : Db} (h : VD n a) : zx (Zn n) a = a := by
  have hr : ∀ x ∈ a, x.length = 24 := fun x hx => h.row hx
  have hl := h.2
  clear h
  unfold zx Zn
  induction a generalizing n with
  | nil => simp
  | cons x a ih =>
    cases n with
    | zero => simp at hl
    | succ n =>
      simp only [List.replicate_succ, List.zipWith_cons_cons]
      rw [ih (fun y hy => hr y (by simp [hy])) (by simpa using hl)]
      rw [show xorB zcell x = x from xorB_zero 24 x (by rw [hr x (by simp)]; exact Nat.le_refl _)]
theorem zx_self {n : Nat} {a : Db} (h : VD n a) : zx a a = Zn n := by
  have hr : ∀ x ∈ a, x.length = 24 := fun x hx => h.row hx
  have hl := h.2
  clear h
  unfold zx Zn
  induction a generalizing n with
  | nil => simp at hl; subst hl; rfl
  | cons x a ih =>
    cases n with
    | zero => simp at hl
    | succ n =>
      simp only [List.replicate_succ, List.zipWith_cons_cons]
      rw [ih (fun y hy => hr y (by simp [hy])) (by simpa using hl), xorB_self, hr x (by simp)]
      rfl
theorem VD_Zn {n : Nat} (h : n ≤ 64) : VD n (Zn n) := by
  have := newDb_ok (n : Int)
  unfold newDb at this
  rw [if_pos ⟨by omega, by omega⟩] at this
  exact ⟨by simpa [Zn] using this, by simp [Zn]⟩
def Sm (n : Nat) (l : List Db) : Db := l.foldl zx (Zn n)
theorem Sm_cons {n : Nat} {s : Db} (t : List Db) (hs : VD n s) : Sm n (s :: t) = t.foldl zx s := by
  unfold Sm
  rw [List.foldl_cons, zx_zero hs]
theorem fold_zx {n : Nat} (hn : n ≤ 64) {l : List Db} {d : Db} (hd : VD n d) (hl : ∀ x ∈ l, VD n x) : l.foldl zx d = zx d (Sm n l) ∧ VD n (Sm n l) := by
  induction l generalizing d with
  | nil => exact ⟨by show d = zx d (Zn n); rw [zx_comm, zx_zero hd], VD_Zn hn⟩
  | cons s t ih =>
    have hs := hl s (by simp)
    have ht : ∀ x ∈ t, VD n x := fun x hx => hl x (by simp [hx])
    have h1 := ih (hd.x hs).2.2 ht
    have h2 := ih hs ht
    rw [List.foldl_cons, h1.1, Sm_cons t hs, h2.1, zx_assoc]
    exact ⟨rfl, (hs.x h2.2).2.2⟩
theorem Sm_app {n : Nat} (hn : n ≤ 64) {a b : List Db} (ha : ∀ x ∈ a, VD n x) (hb : ∀ x ∈ b, VD n x) : Sm n (a ++ b) = zx (Sm n a) (Sm n b) := by
  have h1 := (fold_zx hn (VD_Zn hn) ha).2
  have h2 := fold_zx hn h1 hb
  rw [← h2.1]
  unfold Sm
  rw [List.foldl_append]
theorem xfold_sum {n : Nat} {l : List Db} {d : Db} (hd : VD n d) (hl : ∀ x ∈ l, VD n x) : xfold d l = some (l.foldl zx d) := by
  induction l generalizing d with
  | nil => rfl
  | cons s t ih =>
    have hs := hl s (by simp)
    obtain ⟨o, e, v⟩ := hd.x hs
    rw [xfold_cons, if_pos o, e, ih v (fun x hx => hl x (by simp [hx])), List.foldl_cons]
theorem jw_sum {n : Nat} {l : List Db} (hl : ∀ x ∈ l, VD n x) (h : 2 ≤ l.length ∧ l.length ≤ 4) : jw l = some (Sm n l) := by
  cases l with
  | nil => simp at h
  | cons d t =>
    have hd := hl d (by simp)
    have e : jw (d :: t) = xfold d t := jw_yes h rfl
    rw [e, xfold_sum hd (fun x hx => hl x (by simp [hx])), Sm_cons t hd]
theorem zx_back {n : Nat} {u s : Db} (hu : VD n u) (hs : VD n s) : zx s (zx u s) = u := by
  rw [zx_comm u s, ← zx_assoc, zx_self hs, zx_zero hu]
theorem mwF_sum {n : Nat} (hn : n ≤ 64) {u : Db} (hu : VD n u) (l : List Int) : mwF u n l = zx u (Sm n (l.map (mwDb n))) := by
  have hv : ∀ x ∈ l.map (mwDb n), VD n x := fun x hx => by
    obtain ⟨s, _, rfl⟩ := List.mem_map.1 hx
    exact ⟨mwDb_ok s hn, mwDb_len n s⟩
  rw [← (fold_zx hn hu hv).1]
  unfold mwF
  generalize l.map (mwDb n) = m at hv
  induction m generalizing u with
  | nil => rfl
  | cons s t ih =>
    have hs := hv s (by simp)
    obtain ⟨o, e, v⟩ := hu.x hs
    rw [List.foldl_cons, List.foldl_cons, e]
    exact ih v (fun x hx => hv x (by simp [hx]))
theorem uw_VD {n : Nat} {ix : Int} {cell : List UInt8} (h : uwOk (n : Int) ix cell = true) : VD n (uwV (n : Int) ix cell) := ⟨uw_valid h, by have := uw_len h; omega⟩
theorem mw_law {n : Nat} {ix : Int} {cell : List UInt8} {seeds : List Int} (h : uwOk (n : Int) ix cell = true) (h2 : 1 ≤ seeds.length ∧ seeds.length ≤ 3) :
    (mw (n : Int) ix cell seeds).length = seeds.length + 1 ∧ (∀ x ∈ mw (n : Int) ix cell seeds, VD n x) ∧ Sm n (mw (n : Int) ix cell seeds) = uwV (n : Int) ix cell ∧ jw (mw (n : Int) ix cell seeds) = some (uwV (n : Int) ix cell) := by
  have hn : n ≤ 64 := by have := (uw_rows h).2; omega
  have hu := uw_VD h
  have e : mw (n : Int) ix cell seeds = seeds.map (mwDb n) ++ [mwF (uwV (n : Int) ix cell) n seeds] := by rw [mw_yes h h2]; rfl
  have hv : ∀ x ∈ seeds.map (mwDb n), VD n x := fun x hx => by
    obtain ⟨s, _, rfl⟩ := List.mem_map.1 hx
    exact ⟨mwDb_ok s hn, mwDb_len n s⟩
  have hS := (fold_zx hn hu hv).2
  have hF := mwF_sum hn hu seeds
  have hvF : VD n (mwF (uwV (n : Int) ix cell) n seeds) := by rw [hF]; exact (hu.x hS).2.2
  have hall : ∀ x ∈ mw (n : Int) ix cell seeds, VD n x := fun x hx => by
    rw [e] at hx
    rcases List.mem_append.1 hx with hx | hx
    · exact hv x hx
    · simp at hx; rw [hx]; exact hvF
  have hlen : (mw (n : Int) ix cell seeds).length = seeds.length + 1 := by rw [e]; simp
  have hsum : Sm n (mw (n : Int) ix cell seeds) = uwV (n : Int) ix cell := by
    rw [e, Sm_app hn hv (fun x hx => by simp at hx; rw [hx]; exact hvF), Sm_cons [] hvF, hF]
    exact zx_back hu hS
  exact ⟨hlen, hall, hsum, by rw [jw_sum hall (by omega), hsum]⟩
theorem uw_get {n k : Nat} {cell : List UInt8} (h : uwOk (n : Int) (k : Int) cell = true) : (uwV (n : Int) (k : Int) cell)[k]? = some cell ∧ k < n ∧ cell.length = 24 := by
  have hr := uw_rep h
  have hl := newDb_len (uw_rows h)
  have hr2 := hr
  unfold repOk at hr2
  have hq := of_decide_eq_true hr2
  have hk : k < n := by omega
  refine ⟨?_, hk, hq.2⟩
  unfold uwV repRow
  rw [if_pos hr, Int.toNat_natCast, List.getElem?_set_self (by omega)]
theorem cnt_set (d : Db) (k : Nat) (c : List UInt8) : ((d.set k c).filter fun r => !isZero r).length ≤ (d.filter fun r => !isZero r).length + 1 := by
  induction d generalizing k with
  | nil => simp
  | cons x d ih =>
    cases k with
    | zero =>
      rw [List.set_cons_zero, List.filter_cons, List.filter_cons]
      split <;> split <;> simp <;> omega
    | succ k =>
      have := ih k
      rw [List.set_cons_succ, List.filter_cons, List.filter_cons]
      split <;> simp <;> omega
theorem uw_cnt {n : Nat} {ix : Int} {cell : List UInt8} (h : uwOk (n : Int) ix cell = true) : ((uwV (n : Int) ix cell).filter fun r => !isZero r).length ≤ 1 := by
  unfold uwV repRow
  rw [if_pos (uw_rep h)]
  have := cnt_set (newDb (n : Int)) ix.toNat cell
  have hz : isZero zcell = true := by decide
  have e : (newDb (n : Int)).filter (fun r => !isZero r) = [] := by
    rw [List.filter_eq_nil_iff]
    intro x hx
    unfold newDb at hx
    split at hx
    · rw [(List.mem_replicate.1 hx).2, hz]; simp
    · cases hx
  rw [e] at this
  simpa using this
/-- All shares but one: a share that explains any write fits them. -/
theorem ew_law {n : Nat} {ix : Int} {cell : List UInt8} {l : List Db} (h : uwOk (n : Int) ix cell = true) (hl : ∀ x ∈ l, VD n x) (h1 : 1 ≤ l.length) (h2 : l.length ≤ 3) :
    ∃ x, ew l (n : Int) ix cell = some x ∧ VD n x ∧ jw (l ++ [x]) = some (uwV (n : Int) ix cell) := by
  have hn : n ≤ 64 := by have := (uw_rows h).2; omega
  have hu := uw_VD h
  have hf := fold_zx hn hu hl
  have hv : VD n (zx (uwV (n : Int) ix cell) (Sm n l)) := (hu.x hf.2).2.2
  refine ⟨zx (uwV (n : Int) ix cell) (Sm n l), ?_, hv, ?_⟩
  · rw [ew_yes h (fun e => by rw [e] at h1; simp at h1), xfold_sum hu hl, hf.1]
  · have hall : ∀ x ∈ l ++ [zx (uwV (n : Int) ix cell) (Sm n l)], VD n x := fun x hx => by
      rcases List.mem_append.1 hx with hx | hx
      · exact hl x hx
      · simp at hx; rw [hx]; exact hv
    rw [jw_sum hall (by rw [List.length_append]; simp; omega), Sm_app hn hl (fun x hx => by simp at hx; rw [hx]; exact hv), Sm_cons [] hv]
    rw [show List.foldl zx (zx (uwV (n : Int) ix cell) (Sm n l)) [] = zx (uwV (n : Int) ix cell) (Sm n l) from rfl, zx_back hu hf.2]
/-- Two writes, share by share. -/
theorem Sm_zip {n : Nat} (hn : n ≤ 64) {l m : List Db} (hl : ∀ x ∈ l, VD n x) (hm : ∀ x ∈ m, VD n x) (hlm : l.length = m.length) : Sm n (List.zipWith xorDb l m) = zx (Sm n l) (Sm n m) ∧ ∀ x ∈ List.zipWith xorDb l m, VD n x := by
  induction l generalizing m with
  | nil =>
    cases m with
    | nil => exact ⟨by show Zn n = zx (Zn n) (Zn n); rw [zx_zero (VD_Zn hn)], fun x hx => by simp at hx⟩
    | cons y m => simp at hlm
  | cons x l ih =>
    cases m with
    | nil => simp at hlm
    | cons y m =>
      have hx := hl x (by simp)
      have hy := hm y (by simp)
      obtain ⟨o, e, v⟩ := hx.x hy
      have hl' : ∀ z ∈ l, VD n z := fun z hz => hl z (by simp [hz])
      have hm' : ∀ z ∈ m, VD n z := fun z hz => hm z (by simp [hz])
      obtain ⟨i1, i2⟩ := ih hl' hm' (by simpa using hlm)
      rw [List.zipWith_cons_cons, e, Sm_cons _ v, Sm_cons _ hx, Sm_cons _ hy, (fold_zx hn v i2).1, (fold_zx hn hx hl').1, (fold_zx hn hy hm').1, i1]
      refine ⟨?_, fun z hz => ?_⟩
      · rw [zx_assoc, ← zx_assoc y, zx_comm y (Sm n l), zx_assoc (Sm n l), ← zx_assoc x]
      · rcases List.mem_cons.1 hz with hz | hz
        · rw [hz]; exact v
        · exact i2 z hz
end Go.Proofs.Ytokhogdocaeelaa
