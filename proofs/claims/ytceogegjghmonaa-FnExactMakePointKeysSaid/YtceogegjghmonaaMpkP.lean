/- MakePointKeys and what its keys yield: plain. -/
import Derived.Test.YtceogegjghmonaaEvAll
import Derived.Test.YtceogegjghmonaaSelAlg
namespace Go.Proofs.Ytceogegjghmonaa
set_option linter.unusedVariables false
open Go.RowKit

def mkCorr (sa sb d : Int) : Corr :=
  (xorI (childS sa (1 - d)) (childS sb (1 - d)),
   if d = 0 then xorI (xorI (ctlBit sa 0) (ctlBit sb 0)) 1 else xorI (ctlBit sa 0) (ctlBit sb 0),
   if d = 0 then xorI (ctlBit sa 1) (ctlBit sb 1) else xorI (xorI (ctlBit sa 1) (ctlBit sb 1)) 1)
structure KSt where
  sa : Int
  ta : Int
  sb : Int
  tb : Int
def KSt.next (s : KSt) (d : Int) : KSt :=
  ⟨nodeS s.sa s.ta d (mkCorr s.sa s.sb d), nodeT s.sa s.ta d (mkCorr s.sa s.sb d), nodeS s.sb s.tb d (mkCorr s.sa s.sb d), nodeT s.sb s.tb d (mkCorr s.sa s.sb d)⟩
def kst (ra rb p : Int) (n : Nat) : Nat → KSt
  | 0 => ⟨ra, 0, rb, 1⟩
  | i + 1 => (kst ra rb p n i).next (sideAt p n i)
def kc (ra rb p : Int) (n i : Nat) : Corr := mkCorr (kst ra rb p n i).sa (kst ra rb p n i).sb (sideAt p n i)
def kcs (ra rb p : Int) (n m : Nat) : List Corr := (List.range m).map (kc ra rb p n)
theorem kcs_succ (ra rb p : Int) (n m : Nat) : kcs ra rb p n (m + 1) = kcs ra rb p n m ++ [kc ra rb p n m] := by simp [kcs, List.range_succ]
theorem kcs_len (ra rb p : Int) (n m : Nat) : (kcs ra rb p n m).length = m := by simp [kcs]
theorem kcs_get (ra rb p : Int) (n m i : Nat) (h : i < m) : (kcs ra rb p n m)[i]? = some (kc ra rb p n i) := by simp [kcs, h]

theorem xorI_cancel (a b : Int) (ha : 0 ≤ a ∧ a < 2147483648) (hb : 0 ≤ b ∧ b < 2147483648) : xorI a (xorI a b) = b := by
  obtain ⟨m, rfl⟩ := Int.eq_ofNat_of_zero_le ha.1
  obtain ⟨n, rfl⟩ := Int.eq_ofNat_of_zero_le hb.1
  have hm : m < 2 ^ 31 := by omega
  have hn : n < 2 ^ 31 := by omega
  have hx := Nat.xor_lt_two_pow hm hn
  show xorI (m : Int) (xorI (m : Int) (n : Int)) = (n : Int)
  rw [xorI_nat m n (by omega) (by omega), xorI_nat m (m ^^^ n) (by omega) (by omega), ← Nat.xor_assoc, Nat.xor_self, Nat.zero_xor]
theorem xorI_bd (a b : Int) (ha : 0 ≤ a ∧ a < 2147483648) (hb : 0 ≤ b ∧ b < 2147483648) : 0 ≤ xorI a b ∧ xorI a b < 2147483648 := by
  have := xorI_lt a b 31 (by omega) ha.1 (by simpa using ha.2) hb.1 (by simpa using hb.2)
  simpa using this
theorem bit2 {x : Int} (h : 0 ≤ x ∧ x < 2) : 0 ≤ x ∧ x ≤ 1 := by omega
theorem xor_bit {x y : Int} (hx : 0 ≤ x ∧ x ≤ 1) (hy : 0 ≤ y ∧ y ≤ 1) : 0 ≤ xorI x y ∧ xorI x y ≤ 1 := by
  rw [xorI01 x y hx hy]
  omega
theorem x00 : xorI 0 0 = 0 := by decide
theorem x01 : xorI 0 1 = 1 := by decide
theorem x10 : xorI 1 0 = 1 := by decide
theorem x11 : xorI 1 1 = 0 := by decide
theorem mkCorr_ok (sa sb d : Int) : corrOk (mkCorr sa sb d) = true := by
  have h1 := childS_range sa (1 - d)
  have h2 := childS_range sb (1 - d)
  have h3 := xorI_bd (childS sa (1 - d)) (childS sb (1 - d)) (by omega) (by omega)
  have a0 := bit2 (ctlBit_range sa 0)
  have a1 := bit2 (ctlBit_range sa 1)
  have b0 := bit2 (ctlBit_range sb 0)
  have b1 := bit2 (ctlBit_range sb 1)
  have x0 := xor_bit a0 b0
  have x1 := xor_bit a1 b1
  have y0 := xor_bit x0 (show (0 : Int) ≤ 1 ∧ (1 : Int) ≤ 1 by omega)
  have y1 := xor_bit x1 (show (0 : Int) ≤ 1 ∧ (1 : Int) ≤ 1 by omega)
  unfold corrOk mkCorr
  refine decide_eq_true ?_
  by_cases hd : d = 0
  · simp only [hd, if_true] at *
    exact ⟨h3.1, by omega, y0.1, y0.2, x1.1, x1.2⟩
  · simp only [hd, if_false] at *
    exact ⟨h3.1, by omega, x0.1, x0.2, y1.1, y1.2⟩
theorem kpk_ok (ra rb p : Int) (n : Nat) (r b : Int) (hn : 1 ≤ n) (hn6 : n ≤ 6) (hr : 0 ≤ r ∧ r ≤ 2147483646) (hb : 0 ≤ b ∧ b ≤ 1) : pkOk r b (kcs ra rb p n n) = true := by
  unfold pkOk
  rw [Bool.and_eq_true]
  refine ⟨List.all_eq_true.2 (fun x hx => ?_), decide_eq_true ?_⟩
  · simp only [kcs, List.mem_map] at hx
    obtain ⟨i, _, rfl⟩ := hx
    exact mkCorr_ok _ _ _
  · rw [kcs_len]
    omega

/-- The next node's bit. -/
theorem nodeT_bit (s b d : Int) (c : Corr) (hc : corrOk c = true) (hd : 0 ≤ d ∧ d ≤ 1) : 0 ≤ nodeT s b d c ∧ nodeT s b d c ≤ 1 := by
  unfold corrOk at hc
  have hc := of_decide_eq_true hc
  have h1 := bit2 (ctlBit_range s d)
  have h2 := xor_bit h1 (show 0 ≤ c.2.1 ∧ c.2.1 ≤ 1 by omega)
  have h3 := xor_bit h1 (show 0 ≤ c.2.2 ∧ c.2.2 ≤ 1 by omega)
  unfold nodeT
  rw [if_pos hd]
  split
  · split
    · exact h2
    · exact h3
  · exact h1
theorem path_same {s : KSt} {d : Int} (hd : 0 ≤ d ∧ d ≤ 1) (ha : 0 ≤ s.ta ∧ s.ta ≤ 1) (hb : 0 ≤ s.tb ∧ s.tb ≤ 1) (hne : s.ta ≠ s.tb) : (s.next d).ta ≠ (s.next d).tb := by
  have hx := bit2 (ctlBit_range s.sa d)
  have hy := bit2 (ctlBit_range s.sb d)
  have hd2 : d = 0 ∨ d = 1 := by omega
  show nodeT s.sa s.ta d (mkCorr s.sa s.sb d) ≠ nodeT s.sb s.tb d (mkCorr s.sa s.sb d)
  unfold nodeT mkCorr
  rw [if_pos hd, if_pos hd]
  have hc : (s.ta = 1 ∧ s.tb = 0) ∨ (s.ta = 0 ∧ s.tb = 1) := by omega
  rcases hd2 with rfl | rfl
  · generalize ctlBit s.sa 0 = x at *
    generalize ctlBit s.sb 0 = y at *
    have h1 : x = 0 ∨ x = 1 := by omega
    have h2 : y = 0 ∨ y = 1 := by omega
    rcases hc with ⟨e1, e2⟩ | ⟨e1, e2⟩ <;> rw [e1, e2] <;> rcases h1 with rfl | rfl <;> rcases h2 with rfl | rfl <;> simp [x00, x01, x10, x11]
  · generalize ctlBit s.sa 1 = x at *
    generalize ctlBit s.sb 1 = y at *
    have h1 : x = 0 ∨ x = 1 := by omega
    have h2 : y = 0 ∨ y = 1 := by omega
    rcases hc with ⟨e1, e2⟩ | ⟨e1, e2⟩ <;> rw [e1, e2] <;> rcases h1 with rfl | rfl <;> rcases h2 with rfl | rfl <;> simp [x00, x01, x10, x11]
theorem path_off {s : KSt} {d e : Int} (hd : 0 ≤ d ∧ d ≤ 1) (he : 0 ≤ e ∧ e ≤ 1) (hde : e ≠ d) (ha : 0 ≤ s.ta ∧ s.ta ≤ 1) (hb : 0 ≤ s.tb ∧ s.tb ≤ 1) (hne : s.ta ≠ s.tb) :
    nodeS s.sa s.ta e (mkCorr s.sa s.sb d) = nodeS s.sb s.tb e (mkCorr s.sa s.sb d) ∧ nodeT s.sa s.ta e (mkCorr s.sa s.sb d) = nodeT s.sb s.tb e (mkCorr s.sa s.sb d) := by
  have hc : (s.ta = 1 ∧ s.tb = 0) ∨ (s.ta = 0 ∧ s.tb = 1) := by omega
  have h1d : 1 - d = e := by omega
  have r1 := childS_range s.sa e
  have r2 := childS_range s.sb e
  constructor
  · unfold nodeS mkCorr
    rw [if_pos he, if_pos he, h1d]
    have c1 := xorI_cancel (childS s.sa e) (childS s.sb e) (by omega) (by omega)
    have c2 := xorI_cancel (childS s.sb e) (childS s.sa e) (by omega) (by omega)
    have cc : xorI (childS s.sa e) (childS s.sb e) = xorI (childS s.sb e) (childS s.sa e) := by
      obtain ⟨m, hm⟩ := Int.eq_ofNat_of_zero_le r1.1
      obtain ⟨n, hn⟩ := Int.eq_ofNat_of_zero_le r2.1
      have hm' : childS s.sa e = (m : Int) := hm
      have hn' : childS s.sb e = (n : Int) := hn
      rw [hm', hn'] at *
      rw [xorI_nat m n (by omega) (by omega), xorI_nat n m (by omega) (by omega), Nat.xor_comm]
    rcases hc with ⟨e1, e2⟩ | ⟨e1, e2⟩
    · rw [e1, e2, if_pos rfl, if_neg (show ¬ (0 : Int) = 1 by decide)]
      exact c1
    · rw [e1, e2, if_neg (show ¬ (0 : Int) = 1 by decide), if_pos rfl]
      show _ = xorI (childS s.sb e) (xorI (childS s.sa e) (childS s.sb e))
      rw [cc]
      exact c2.symm
  · have hx := bit2 (ctlBit_range s.sa e)
    have hy := bit2 (ctlBit_range s.sb e)
    unfold nodeT mkCorr
    rw [if_pos he, if_pos he]
    have he2 : (e = 0 ∧ d = 1) ∨ (e = 1 ∧ d = 0) := by omega
    rcases he2 with ⟨he0, hd0⟩ | ⟨he0, hd0⟩ <;> subst he0 <;> subst hd0
    · generalize ctlBit s.sa 0 = x at *
      generalize ctlBit s.sb 0 = y at *
      have h1 : x = 0 ∨ x = 1 := by omega
      have h2 : y = 0 ∨ y = 1 := by omega
      rcases hc with ⟨e1, e2⟩ | ⟨e1, e2⟩ <;> rw [e1, e2] <;> rcases h1 with rfl | rfl <;> rcases h2 with rfl | rfl <;> simp [x00, x01, x10, x11]
    · generalize ctlBit s.sa 1 = x at *
      generalize ctlBit s.sb 1 = y at *
      have h1 : x = 0 ∨ x = 1 := by omega
      have h2 : y = 0 ∨ y = 1 := by omega
      rcases hc with ⟨e1, e2⟩ | ⟨e1, e2⟩ <;> rw [e1, e2] <;> rcases h1 with rfl | rfl <;> rcases h2 with rfl | rfl <;> simp [x00, x01, x10, x11]

theorem quot_succ (x : Int) (n i : Nat) (h : i < n) : x / 2 ^ (n - (i + 1)) = 2 * (x / 2 ^ (n - i)) + sideAt x n i := by
  unfold sideAt
  have e1 : n - (i + 1) = n - 1 - i := by omega
  have e2 : n - i = (n - 1 - i) + 1 := by omega
  rw [e1, e2, Int.pow_succ, ← Int.ediv_ediv_of_nonneg (Int.le_of_lt (Int.pow_pos (by decide)))]
  omega
/-- Both keys on the way to a leaf. -/
theorem ways (ra rb p idx : Int) (n : Nat) (hp : 0 ≤ p) (hp2 : p < 2 ^ n) (hi : 0 ≤ idx) (hi2 : idx < 2 ^ n) (i : Nat) (h : i ≤ n) :
    (0 ≤ evT ra 0 (kcs ra rb p n n) idx n i ∧ evT ra 0 (kcs ra rb p n n) idx n i ≤ 1) ∧ (0 ≤ evT rb 1 (kcs ra rb p n n) idx n i ∧ evT rb 1 (kcs ra rb p n n) idx n i ≤ 1) ∧
    ((idx / 2 ^ (n - i) = p / 2 ^ (n - i) ∧ evS ra 0 (kcs ra rb p n n) idx n i = (kst ra rb p n i).sa ∧ evT ra 0 (kcs ra rb p n n) idx n i = (kst ra rb p n i).ta ∧ evS rb 1 (kcs ra rb p n n) idx n i = (kst ra rb p n i).sb ∧ evT rb 1 (kcs ra rb p n n) idx n i = (kst ra rb p n i).tb ∧ (kst ra rb p n i).ta ≠ (kst ra rb p n i).tb) ∨
     (idx / 2 ^ (n - i) ≠ p / 2 ^ (n - i) ∧ evS ra 0 (kcs ra rb p n n) idx n i = evS rb 1 (kcs ra rb p n n) idx n i ∧ evT ra 0 (kcs ra rb p n n) idx n i = evT rb 1 (kcs ra rb p n n) idx n i)) := by
  induction i with
  | zero =>
    refine ⟨⟨by simp [evT, evSt], by simp [evT, evSt]⟩, ⟨by simp [evT, evSt], by simp [evT, evSt]⟩, .inl ⟨?_, rfl, rfl, rfl, rfl, by simp [kst]⟩⟩
    rw [Nat.sub_zero, Int.ediv_eq_zero_of_lt hi hi2, Int.ediv_eq_zero_of_lt hp hp2]
  | succ i ih =>
    obtain ⟨t1, t2, ih⟩ := ih (by omega)
    have hc := kcs_get ra rb p n n i (by omega)
    have hok : corrOk (kc ra rb p n i) = true := mkCorr_ok _ _ _
    have sd := sideAt_bd idx n i
    have sp := sideAt_bd p n i
    rw [evS_succ _ _ _ _ _ _ hc, evT_succ _ _ _ _ _ _ hc, evS_succ _ _ _ _ _ _ hc, evT_succ _ _ _ _ _ _ hc, quot_succ idx n i (by omega), quot_succ p n i (by omega)]
    refine ⟨nodeT_bit _ _ _ _ hok sd, nodeT_bit _ _ _ _ hok sd, ?_⟩
    rcases ih with ⟨hq, a1, a2, a3, a4, hne⟩ | ⟨hq, a1, a2⟩
    · rw [a1, a2, a3, a4, hq]
      rw [a2] at t1
      rw [a4] at t2
      by_cases hs : sideAt idx n i = sideAt p n i
      · refine .inl ⟨by rw [hs], ?_, ?_, ?_, ?_, path_same sp t1 t2 hne⟩ <;> (rw [hs]; rfl)
      · have := path_off (s := kst ra rb p n i) sp sd hs t1 t2 hne
        exact .inr ⟨by omega, this.1, this.2⟩
    · rw [a1, a2]
      exact .inr ⟨by omega, rfl, rfl⟩
theorem leaves (ra rb p idx : Int) (n : Nat) (hn : 1 ≤ n) (hn6 : n ≤ 6) (hra : 0 ≤ ra ∧ ra ≤ 2147483646) (hrb : 0 ≤ rb ∧ rb ≤ 2147483646) (hp : 0 ≤ p) (hp2 : p < 2 ^ n) (hi : 0 ≤ idx) (hi2 : idx < 2 ^ n) :
    (0 ≤ evPt ra 0 (kcs ra rb p n n) idx ∧ evPt ra 0 (kcs ra rb p n n) idx ≤ 1) ∧ (0 ≤ evPt rb 1 (kcs ra rb p n n) idx ∧ evPt rb 1 (kcs ra rb p n n) idx ≤ 1) ∧
    (idx = p → evPt ra 0 (kcs ra rb p n n) idx ≠ evPt rb 1 (kcs ra rb p n n) idx) ∧ (idx ≠ p → evPt ra 0 (kcs ra rb p n n) idx = evPt rb 1 (kcs ra rb p n n) idx) := by
  have hl : leafOk (kcs ra rb p n n).length idx = true := by
    unfold leafOk
    rw [kcs_len]
    exact decide_eq_true ⟨hi, by omega⟩
  have k1 := kpk_ok ra rb p n ra 0 hn hn6 hra (by omega)
  have k2 := kpk_ok ra rb p n rb 1 hn hn6 hrb (by omega)
  have e1 : evPt ra 0 (kcs ra rb p n n) idx = evT ra 0 (kcs ra rb p n n) idx n n := by unfold evPt; rw [k1, hl, kcs_len]; rfl
  have e2 : evPt rb 1 (kcs ra rb p n n) idx = evT rb 1 (kcs ra rb p n n) idx n n := by unfold evPt; rw [k2, hl, kcs_len]; rfl
  rw [e1, e2]
  obtain ⟨t1, t2, hw⟩ := ways ra rb p idx n hp hp2 hi hi2 n (Nat.le_refl _)
  rw [Nat.sub_self, Int.pow_zero, Int.ediv_one, Int.ediv_one] at hw
  refine ⟨t1, t2, fun h => ?_, fun h => ?_⟩
  · rcases hw with ⟨_, a1, a2, a3, a4, hne⟩ | ⟨hq, _⟩
    · rw [a2, a4]; exact hne
    · exact absurd h hq
  · rcases hw with ⟨hq, _⟩ | ⟨_, _, a2⟩
    · exact absurd hq h
    · exact a2
theorem evRow_S {r b : Int} {xs : List Corr} {n : Nat} (hn : n ≤ 64) (h : ∀ i : Nat, i < n → 0 ≤ evPt r b xs (i : Int) ∧ evPt r b xs (i : Int) ≤ 1) : S n (evRow r b xs n) := by
  refine ⟨hn, evRow_len r b xs n, fun k x hx => ?_⟩
  unfold evRow at hx
  rw [List.getElem?_map] at hx
  obtain ⟨j, hj, hj2⟩ := Option.map_eq_some_iff.1 hx
  rw [← hj2]
  have hlt := (List.getElem?_eq_some_iff.1 hj)
  obtain ⟨h1, h2⟩ := hlt
  simp at h1 h2
  subst h2
  exact h _ h1
/-- The plain law: the selections of both keys are selections, and add up to the unit selection at the point. -/
theorem keys_law (ra rb p : Int) (n : Nat) (hn : 1 ≤ n) (hn6 : n ≤ 6) (hra : 0 ≤ ra ∧ ra ≤ 2147483646) (hrb : 0 ≤ rb ∧ rb ≤ 2147483646) (hp : 0 ≤ p) (hp2 : p < 2 ^ n) :
    S (2 ^ n) (evAll ra 0 (kcs ra rb p n n)) ∧ S (2 ^ n) (evAll rb 1 (kcs ra rb p n n)) ∧ unitOk ((2 ^ n : Nat) : Int) p = true ∧ xorSel (evAll ra 0 (kcs ra rb p n n)) (evAll rb 1 (kcs ra rb p n n)) = unitSel ((2 ^ n : Nat) : Int) p ∧ evPt ra 0 (kcs ra rb p n n) p ≠ evPt rb 1 (kcs ra rb p n n) p := by
  have hpw : 2 ^ n ≤ 64 := Nat.le_trans (Nat.pow_le_pow_right (by omega) hn6) (by decide)
  have hp1 : 1 ≤ 2 ^ n := Nat.one_le_two_pow
  have hcast : ((2 ^ n : Nat) : Int) = 2 ^ n := by simp
  have k1 := kpk_ok ra rb p n ra 0 hn hn6 hra (by omega)
  have k2 := kpk_ok ra rb p n rb 1 hn hn6 hrb (by omega)
  have e1 : evAll ra 0 (kcs ra rb p n n) = evRow ra 0 (kcs ra rb p n n) (2 ^ n) := by unfold evAll; rw [if_pos k1, kcs_len]
  have e2 : evAll rb 1 (kcs ra rb p n n) = evRow rb 1 (kcs ra rb p n n) (2 ^ n) := by unfold evAll; rw [if_pos k2, kcs_len]
  have hL : ∀ i : Nat, i < 2 ^ n → _ := fun i hi => leaves ra rb p (i : Int) n hn hn6 hra hrb hp hp2 (by omega) (by rw [← hcast]; omega)
  have s1 : S (2 ^ n) (evRow ra 0 (kcs ra rb p n n) (2 ^ n)) := evRow_S hpw (fun i hi => (hL i hi).1)
  have s2 : S (2 ^ n) (evRow rb 1 (kcs ra rb p n n) (2 ^ n)) := evRow_S hpw (fun i hi => (hL i hi).2.1)
  have hu : unitOk ((2 ^ n : Nat) : Int) p = true := by
    unfold unitOk
    refine decide_eq_true ?_
    rw [← hcast] at hp2
    omega
  rw [e1, e2]
  refine ⟨s1, s2, hu, ?_, (leaves ra rb p p n hn hn6 hra hrb hp hp2 hp hp2).2.2.1 rfl⟩
  obtain ⟨q, hq⟩ : ∃ q : Nat, p = (q : Int) := ⟨p.toNat, by omega⟩
  subst hq
  refine (s1.add s2).ext (S.unit hu) (fun k x y hk hx hy => ?_)
  have g1 : (evRow ra 0 (kcs ra rb (q : Int) n n) (2 ^ n))[k]? = some (evPt ra 0 (kcs ra rb (q : Int) n n) (k : Int)) := by simp [evRow, hk]
  have g2 : (evRow rb 1 (kcs ra rb (q : Int) n n) (2 ^ n))[k]? = some (evPt rb 1 (kcs ra rb (q : Int) n n) (k : Int)) := by simp [evRow, hk]
  have hx' := s1.xor_get s2 g1 g2
  rw [hx'] at hx
  injection hx with hx
  have hk2 := hL k hk
  have hy' : (unitSel ((2 ^ n : Nat) : Int) (q : Int))[k]? = some (if k = q then 1 else 0) := by
    unfold unitSel
    rw [if_pos hu, Int.toNat_natCast, Int.toNat_natCast, List.getElem?_set]
    by_cases h : q = k
    · subst h
      simp [hk]
    · rw [if_neg h, List.getElem?_replicate, if_pos hk, if_neg (fun e => h e.symm)]
  rw [hy'] at hy
  injection hy with hy
  by_cases h : k = q
  · subst h
    rw [if_pos rfl] at hy
    have h3 := hk2.2.2.1 rfl
    have h1 := hk2.1
    have h2 := hk2.2.1
    omega
  · rw [if_neg h] at hy
    have h3 := hk2.2.2.2 (by show (k : Int) ≠ (q : Int); omega)
    have h1 := hk2.1
    omega
end Go.Proofs.Ytceogegjghmonaa
