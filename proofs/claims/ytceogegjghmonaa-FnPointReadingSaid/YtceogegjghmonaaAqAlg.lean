/- Answers add up: plain algebra of aq, and the plain law of PrivateReading. -/
import Derived.Test.YtceogegjghmonaaSelAlg
import Derived.Test.YtceogegjghmonaaXorAlg
import Derived.Test.YtceogegjghmonaaRp
namespace Go.Proofs.Ytceogegjghmonaa
set_option linter.unusedVariables false
open Go.RowKit

def Zp (d : List (List UInt8)) (v : List Int) (k : Nat) : List UInt8 := xorB zcell (selP d v k)
theorem dbOk_of {d : List (List UInt8)} (h : d.length ≤ 64) (hl : LenB 24 d) : dbOk d = true := by
  unfold dbOk
  rw [decide_eq_true h, Bool.true_and, Bool.not_eq_true', List.any_eq_false]
  intro x hx
  rw [hl x hx]
  simp
theorem dbOk_to {d : List (List UInt8)} (h : dbOk d = true) : d.length ≤ 64 ∧ LenB 24 d := by
  unfold dbOk at h
  rw [Bool.and_eq_true, Bool.not_eq_true', List.any_eq_false] at h
  refine ⟨of_decide_eq_true h.1, fun x hx => ?_⟩
  have := h.2 x hx
  simpa using this
theorem zcell_len : zcell.length = 24 := by simp [zcell]
theorem selP_le24 {d : List (List UInt8)} (hl : LenB 24 d) (v : List Int) (k : Nat) : (selP d v k).length ≤ 24 := by
  induction k with
  | zero => simp [selP]
  | succ k ih =>
    unfold selP
    split
    · rw [xorB_len]
      have : (d.getD k []).length ≤ 24 := by
        by_cases h : k < d.length
        · have := hl d[k] (List.getElem_mem h)
          simp [List.getD, List.getElem?_eq_getElem h, this]
        · simp [List.getD, List.getElem?_eq_none (Nat.le_of_not_lt h)]
      omega
    · exact ih
theorem Zp_len {d : List (List UInt8)} (hl : LenB 24 d) (v : List Int) (k : Nat) : (Zp d v k).length = 24 := by
  unfold Zp
  rw [xorB_len, zcell_len]
  have := selP_le24 hl v k
  omega
theorem Zp_t {d : List (List UInt8)} {v : List Int} {k : Nat} {x : List UInt8} (hx : d[k]? = some x) (hv : v[k]? = some 1) : Zp d v (k + 1) = xorB (Zp d v k) x := by
  unfold Zp
  rw [selP_succ_t hx hv, xorB_assoc]
theorem Zp_f {d : List (List UInt8)} {v : List Int} {k : Nat} (hv : v[k]? = some 0) : Zp d v (k + 1) = Zp d v k := by
  unfold Zp
  rw [selP_succ_f hv (by decide)]
theorem xor_zz {a : List UInt8} (h : a.length = 24) : xorB zcell a = a := xorB_zero _ _ (by omega)
theorem xor_zr {a : List UInt8} (h : a.length = 24) : xorB a zcell = a := by rw [xorB_comm]; exact xor_zz h
theorem xor_sz {a : List UInt8} (h : a.length = 24) : xorB a a = zcell := by rw [xorB_self, h]; rfl
theorem Zp_add {n : Nat} {d : List (List UInt8)} {a b : List Int} (hd : d.length = n) (hl : LenB 24 d) (ha : S n a) (hb : S n b) (k : Nat) (hk : k ≤ n) : Zp d (xorSel a b) k = xorB (Zp d a k) (Zp d b k) := by
  induction k with
  | zero => unfold Zp selP; rw [xorB_nil, xor_sz zcell_len]
  | succ k ih =>
    have ih := ih (by omega)
    obtain ⟨x, hx⟩ : ∃ x, d[k]? = some x := ⟨d[k], List.getElem?_eq_getElem (by omega)⟩
    have hxl : x.length = 24 := hl x (List.mem_of_getElem? hx)
    obtain ⟨p, hp, hp1⟩ := ha.at (show k < n by omega)
    obtain ⟨q, hq, hq1⟩ := hb.at (show k < n by omega)
    have hpq := ha.xor_get hb hp hq
    have lA := Zp_len hl a k
    have lB := Zp_len hl b k
    have h1 : p = 0 ∨ p = 1 := by omega
    have h2 : q = 0 ∨ q = 1 := by omega
    rcases h1 with rfl | rfl <;> rcases h2 with rfl | rfl
    · rw [Zp_f (by simpa using hpq), Zp_f hp, Zp_f hq, ih]
    · rw [Zp_t hx (by simpa using hpq), Zp_f hp, Zp_t hx hq, ih, xorB_assoc]
    · rw [Zp_t hx (by simpa using hpq), Zp_t hx hp, Zp_f hq, ih, xorB_assoc, xorB_comm (Zp d b k) x, ← xorB_assoc]
    · rw [Zp_f (by simpa using hpq), Zp_t hx hp, Zp_t hx hq, ih, xor4, xor_sz hxl, xor_zr (by rw [xorB_len, lA, lB]; rfl)]
theorem aq_yes {n : Nat} {d : List (List UInt8)} {v : List Int} (hd : d.length = n) (hok : dbOk d = true) (hv : S n v) : aq d v = Zp d v n := by
  have h : aqOk d v = true := by unfold aqOk; rw [hok, hd, hv.sel]; rfl
  unfold aq Zp selX
  rw [if_pos h, hd]
theorem aq_add {n : Nat} {d : List (List UInt8)} {a b : List Int} (hd : d.length = n) (hok : dbOk d = true) (ha : S n a) (hb : S n b) : aq d (xorSel a b) = xorB (aq d a) (aq d b) := by
  rw [aq_yes hd hok (ha.add hb), aq_yes hd hok ha, aq_yes hd hok hb]
  exact Zp_add hd (dbOk_to hok).2 ha hb n (Nat.le_refl _)
theorem aq_len24 {n : Nat} {d : List (List UInt8)} {v : List Int} (hd : d.length = n) (hok : dbOk d = true) (hv : S n v) : (aq d v).length = 24 := by
  rw [aq_yes hd hok hv]
  exact Zp_len (dbOk_to hok).2 v n
theorem unit_get {n i k : Nat} (hu : unitOk (n : Int) (i : Int) = true) (hk : k < n) : (unitSel (n : Int) (i : Int))[k]? = some (if k = i then 1 else 0) := by
  unfold unitSel
  rw [if_pos hu, Int.toNat_natCast, Int.toNat_natCast, List.getElem?_set]
  by_cases h : i = k
  · subst h
    simp [hk]
  · rw [if_neg h, List.getElem?_replicate, if_pos hk, if_neg (fun e => h e.symm)]
theorem Zp_unit {n i : Nat} {d : List (List UInt8)} {x : List UInt8} (hd : d.length = n) (hl : LenB 24 d) (hu : unitOk (n : Int) (i : Int) = true) (hx : d[i]? = some x) (k : Nat) (hk : k ≤ n) : Zp d (unitSel (n : Int) (i : Int)) k = if k ≤ i then zcell else x := by
  induction k with
  | zero => unfold Zp selP; rw [xorB_nil, if_pos (Nat.zero_le _)]
  | succ k ih =>
    have ih := ih (by omega)
    have hg := unit_get hu (show k < n by omega)
    by_cases h : k = i
    · subst h
      rw [if_pos rfl] at hg
      rw [Zp_t hx hg, ih, if_pos (Nat.le_refl _), if_neg (by omega), xor_zz (hl x (List.mem_of_getElem? hx))]
    · rw [if_neg h] at hg
      rw [Zp_f hg, ih]
      by_cases h2 : k ≤ i
      · rw [if_pos h2, if_pos (by omega)]
      · rw [if_neg h2, if_neg (by omega)]
theorem aq_unit {n i : Nat} {d : List (List UInt8)} {x : List UInt8} (hd : d.length = n) (hok : dbOk d = true) (hu : unitOk (n : Int) (i : Int) = true) (hx : d[i]? = some x) : aq d (unitSel (n : Int) (i : Int)) = x := by
  have hi : i < n := by have := (List.getElem?_eq_some_iff.1 hx).1; omega
  rw [aq_yes hd hok (S.unit hu), Zp_unit hd (dbOk_to hok).2 hu hx n (Nat.le_refl _), if_neg (by omega)]
theorem aq_fold {n : Nat} {d : List (List UInt8)} {a : List Int} {l : List (List Int)} (hd : d.length = n) (hok : dbOk d = true) (ha : S n a) (hl : ∀ x ∈ l, S n x) : aq d (foldSel a l) = xorB (aq d a) (xorAll (l.map (aq d))) := by
  induction l generalizing a with
  | nil => simp [foldSel, xorAll, xorB_nil]
  | cons x l ih =>
    have hx := hl x (by simp)
    have e : foldSel a (x :: l) = foldSel (xorSel a x) l := rfl
    rw [e, ih (ha.add hx) (fun z hz => hl z (by simp [hz])), aq_add hd hok ha hx, List.map_cons, xorAll_cons, xorB_assoc]
/-- The plain law: where the reading succeeds it yields the row, and the selections add up to the unit selection. -/
theorem read_law {d : List (List UInt8)} {i : Int} {seeds : List Int} (h : cmbOk (rp d i seeds) = true) : ∃ (k : Nat) (x : List UInt8), i = (k : Int) ∧ d[k]? = some x ∧ cmb (rp d i seeds) = x ∧ unitOk (d.length : Int) i = true ∧ dbOk d = true ∧ jq (mq (d.length : Int) i seeds) = unitSel (d.length : Int) i := by
  have hc : 2 ≤ (rp d i seeds).length ∧ (rp d i seeds).length ≤ 4 := by
    by_cases h2 : 2 ≤ (rp d i seeds).length ∧ (rp d i seeds).length ≤ 4
    · exact h2
    · rw [cmbOk_cnt h2] at h; cases h
  have hany : (rp d i seeds).any ne24 = false := by rw [cmbOk_of hc, Bool.not_eq_true'] at h; exact h
  have hmq : mqOk (d.length : Int) i seeds = true := by
    by_cases hm : mqOk (d.length : Int) i seeds = true
    · exact hm
    · have e : rp d i seeds = [] := by unfold rp mq; rw [if_neg hm]; rfl
      rw [e] at hc
      simp at hc
  have hu : unitOk (d.length : Int) i = true := by
    unfold mqOk at hmq
    rw [Bool.and_eq_true] at hmq
    exact hmq.1
  have hu2 : (1 ≤ (d.length : Int) ∧ (d.length : Int) ≤ 64) ∧ 0 ≤ i ∧ i ≤ (d.length : Int) - 1 := by unfold unitOk at hu; exact of_decide_eq_true hu
  obtain ⟨k, rfl⟩ := Int.eq_ofNat_of_zero_le hu2.2.1
  have hk : k < d.length := by omega
  have e1 : mq (d.length : Int) (k : Int) seeds = rands (d.length : Int) seeds ++ [foldSel (unitSel (d.length : Int) (k : Int)) (rands (d.length : Int) seeds)] := by unfold mq; rw [if_pos hmq]
  have hr : ∀ x ∈ rands (d.length : Int) seeds, S d.length x := fun x hx => by
    simp only [rands, List.mem_map] at hx
    obtain ⟨s, _, rfl⟩ := hx
    exact S.rand s (by omega)
  have hU := S.unit hu
  have hF := hU.fold hr
  have hok : dbOk d = true := by
    by_cases hd : dbOk d = true
    · exact hd
    · exfalso
      have : (rp d (k : Int) seeds).any ne24 = true := by
        rw [List.any_eq_true]
        refine ⟨[], ?_, by simp [ne24]⟩
        unfold rp
        rw [e1, List.map_append]
        refine List.mem_append_right _ ?_
        have : aq d (foldSel (unitSel (d.length : Int) (k : Int)) (rands (d.length : Int) seeds)) = [] := by
          unfold aq aqOk
          rw [Bool.eq_false_iff.2 hd]
          rfl
        simp [this]
      rw [this] at hany
      cases hany
  refine ⟨k, d[k], rfl, List.getElem?_eq_getElem hk, ?_, hu, hok, ?_⟩
  · rw [cmb_yes h]
    unfold rp
    rw [e1, List.map_append, xorAll_append, List.map_cons, List.map_nil]
    show xorB _ (aq d (foldSel _ _)) = _
    rw [aq_fold rfl hok hU hr, aq_unit rfl hok hu (List.getElem?_eq_getElem hk)]
    refine xor_back ?_
    have hL : LenB 24 ((rands (d.length : Int) seeds).map (aq d)) := fun y hy => by
      obtain ⟨z, hz, rfl⟩ := List.mem_map.1 hy
      exact aq_len24 rfl hok (hr z hz)
    have := hL.le
    have h24 := (dbOk_to hok).2 d[k] (List.getElem_mem hk)
    omega
  · rw [e1]
    exact explain_join (by omega) hr hu
end Go.Proofs.Ytceogegjghmonaa
