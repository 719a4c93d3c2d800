/- OpenCell: plain laws, and readings of parts of a slice. -/
import Derived.Test.YtokhogdocaeelaaSealP
import Derived.Test.YtokhogdocaeelaaKeep
import Derived.Test.YtokhogdocaeelaaRead
namespace Go.Proofs.Ytokhogdocaeelaa
set_option linter.unusedVariables false
open Go.RowKit

def opnM (k c : Int) (cell : List UInt8) : Int := if openOk k c cell then openM k c cell else 0
def opnB (k c : Int) (cell : List UInt8) : List UInt8 := if openOk k c cell then openB k c cell else []
def opP (k c : Int) (cell : List UInt8) : List UInt8 := dec (cellK k c) (cell.take 20)
def hdrOk (k c : Int) (cell : List UInt8) : Bool := keyOk k && cntOk c && decide (cell.length = 24)
def chkOk (k c : Int) (cell : List UInt8) : Bool := decide (cell.drop 20 = ckB (cellCk k c (cell.take 20)))
def bndOk (k c : Int) (cell : List UInt8) : Bool := decide ((((opP k c cell).getD 0 0).toNat : Int) ≤ 3 ∧ (((opP k c cell).getD 1 0).toNat : Int) ≤ 14)
theorem openOk_eq (k c : Int) (cell : List UInt8) : openOk k c cell = (hdrOk k c cell && chkOk k c cell && bndOk k c cell) := rfl
theorem opP_len {k c : Int} {cell : List UInt8} (h : cell.length = 24) : (opP k c cell).length = 20 := by
  unfold opP
  rw [dec_len, List.length_take]
  omega
theorem opn_no {k c : Int} {cell : List UInt8} (h : openOk k c cell = false) : opnM k c cell = 0 ∧ opnB k c cell = [] := by
  unfold opnM opnB
  rw [h]
  exact ⟨rfl, rfl⟩
theorem opn_yes {k c : Int} {cell : List UInt8} (h : openOk k c cell = true) : opnM k c cell = openM k c cell ∧ opnB k c cell = openB k c cell := by
  unfold opnM opnB
  rw [h]
  exact ⟨rfl, rfl⟩
theorem opnB_le (k c : Int) (cell : List UInt8) : (opnB k c cell).length ≤ 14 := by
  cases h : openOk k c cell with
  | false => rw [(opn_no h).2]; simp
  | true =>
    rw [(opn_yes h).2]
    rw [openOk_eq] at h
    simp only [Bool.and_eq_true] at h
    have hb := of_decide_eq_true h.2
    unfold openB
    have e : dec (cellK k c) (cell.take 20) = opP k c cell := rfl
    rw [e, List.length_take]
    have := hb.2
    omega
theorem opnM_bd (k c : Int) (cell : List UInt8) : 0 ≤ opnM k c cell ∧ opnM k c cell ≤ 3 := by
  cases h : openOk k c cell with
  | false => rw [(opn_no h).1]; omega
  | true =>
    rw [(opn_yes h).1]
    rw [openOk_eq] at h
    simp only [Bool.and_eq_true] at h
    have hb := of_decide_eq_true h.2
    exact ⟨Int.natCast_nonneg _, hb.1⟩
/-- A part of a slice reads as the part of the list. -/
theorem rdAt_take {α : Type} {R : Rel α} {w : World} {A : Option Addr} {n c m : Nat} {xs : List α} (h : RdAt R w A n c xs) (hm : m ≤ n) : RdAt R w A m c (xs.take m) := by
  refine ⟨by rw [List.length_take, h.1]; omega, Nat.le_trans hm h.2.1, h.2.2.1, fun h0 => ?_⟩
  obtain ⟨b, off, hA, hb, hc⟩ := h.2.2.2 (by omega)
  refine ⟨b, off, hA, hb, fun j x hx => hc j x ?_⟩
  have hj : j < m := by have := (List.getElem?_eq_some_iff.1 hx).1; rw [List.length_take] at this; omega
  rwa [List.getElem?_take_of_lt hj] at hx
theorem rdAt_drop {α : Type} {R : Rel α} {w : World} {b off n c m l q : Nat} {xs : List α} (h : RdAt R w (some ⟨b, off, none⟩) n c xs) (hm : m ≤ n) (hl : n - m = l) (hq : c - m = q) : RdAt R w (some ⟨b, off + m, none⟩) l q (xs.drop m) := by
  subst hl hq
  have hcm := h.2.2.1
  have hnc := h.2.1
  refine ⟨by rw [List.length_drop, h.1], by omega, by omega, fun h0 => ?_⟩
  obtain ⟨b', off', hA, hb, hc⟩ := h.2.2.2 (by omega)
  simp only [Option.some.injEq, Addr.mk.injEq] at hA
  obtain ⟨rfl, rfl, _⟩ := hA
  refine ⟨b, off + m, rfl, hb, fun j x hx => ?_⟩
  rw [List.getElem?_drop] at hx
  obtain ⟨u, hu, hr⟩ := hc (m + j) x hx
  exact ⟨u, by rwa [show off + m + j = off + (m + j) by omega], hr⟩
theorem rd_take {α : Type} {R : Rel α} {w : World} {A : Option Addr} {n c : Nat} {xs : List α} (h : Rd R w (.slice A n c) xs) (m : Nat) (hm : m ≤ n) : Rd R w (.slice A m c) (xs.take m) := ⟨_, _, _, rfl, rdAt_take h.at_same hm⟩
theorem rd_drop {α : Type} {R : Rel α} {w : World} {b off n c l q : Nat} {xs : List α} (h : Rd R w (.slice (some ⟨b, off, none⟩) n c) xs) (m : Nat) (hm : m ≤ n) (hl : n - m = l) (hq : c - m = q) : Rd R w (.slice (some ⟨b, off + m, none⟩) l q) (xs.drop m) := ⟨_, _, _, rfl, rdAt_drop h.at_same hm hl hq⟩
/-- Four bytes, the lowest first. -/
theorem le4 (x0 x1 x2 x3 : UInt8) (n : Int) (h0 : 0 ≤ n) (h1 : n < 2147483647) : [x0, x1, x2, x3] = ckB n ↔ (x0.toNat : Int) + (x1.toNat : Int) * 256 + (x2.toNat : Int) * 65536 + (x3.toNat : Int) * 16777216 = n := by
  have b0 := x0.toNat_lt
  have b1 := x1.toNat_lt
  have b2 := x2.toNat_lt
  have b3 := x3.toNat_lt
  unfold ckB
  simp only [List.cons.injEq, and_true]
  constructor
  · rintro ⟨rfl, rfl, rfl, rfl⟩
    simp only [ofInt_toNat]
    omega
  · intro h
    refine ⟨?_, ?_, ?_, ?_⟩ <;> apply UInt8.toNat_inj.1 <;> apply Int.ofNat.inj <;> rw [Int.ofNat_eq_natCast, Int.ofNat_eq_natCast, ofInt_toNat] <;> omega
theorem or_low (a b k : Nat) (ha : a < 2 ^ k) (hs : b * 2 ^ k + a < 2 ^ 62) : bits .or .i64 (a : Int) ((b * 2 ^ k : Nat) : Int) = ((a + b * 2 ^ k : Nat) : Int) := by
  have e : (a : Nat) ||| (b * 2 ^ k) = a + b * 2 ^ k := by
    rw [Nat.or_comm, Nat.mul_comm b, ← Nat.two_pow_add_eq_or_of_lt ha, Nat.add_comm]
  have key : (BitVec.ofInt 64 (a : Int) ||| BitVec.ofInt 64 ((b * 2 ^ k : Nat) : Int)).toNat = a + b * 2 ^ k := by
    rw [BitVec.toNat_or, BitVec.toNat_ofInt, BitVec.toNat_ofInt]
    have h1 : (((a : Nat) : Int) % ((2 ^ 64 : Nat) : Int)).toNat = a := by
      have : (a : Int) < ((2 ^ 64 : Nat) : Int) := by omega
      rw [Int.emod_eq_of_lt (Int.natCast_nonneg _) this]
      rfl
    have h2 : (((b * 2 ^ k : Nat) : Int) % ((2 ^ 64 : Nat) : Int)).toNat = b * 2 ^ k := by
      generalize b * 2 ^ k = z at hs
      have : (z : Int) < ((2 ^ 64 : Nat) : Int) := by omega
      rw [Int.emod_eq_of_lt (Int.natCast_nonneg _) this]
      rfl
    rw [h1, h2, e]
  show IntKind.i64.wrap ((BitVec.ofInt 64 (a : Int) ||| BitVec.ofInt 64 ((b * 2 ^ k : Nat) : Int)).toNat : Nat) = _
  rw [key, IntKind.wrap_i64]
  generalize b * 2 ^ k = z at hs
  omega
theorem or4 (a b c d : Nat) (ha : a < 256) (hb : b < 256) (hc : c < 256) (hd : d < 256) :
    bits .or .i64 (a : Int) ((b : Int) * 256) = (a : Int) + (b : Int) * 256 ∧ bits .or .i64 ((a : Int) + (b : Int) * 256) ((c : Int) * 65536) = (a : Int) + (b : Int) * 256 + (c : Int) * 65536 ∧
    bits .or .i64 ((a : Int) + (b : Int) * 256 + (c : Int) * 65536) ((d : Int) * 16777216) = (a : Int) + (b : Int) * 256 + (c : Int) * 65536 + (d : Int) * 16777216 := by
  refine ⟨?_, ?_, ?_⟩
  · have := or_low a b 8 ha (by omega)
    simpa using this
  · have := or_low (a + b * 256) c 16 (by omega) (by omega)
    simpa using this
  · have := or_low (a + b * 256 + c * 65536) d 24 (by omega) (by omega)
    simpa using this
/-- A list of four. -/
theorem four {xs : List UInt8} (h : xs.length = 4) : ∃ x0 x1 x2 x3, xs = [x0, x1, x2, x3] := by
  match xs, h with
  | [a, b, c, d], _ => exact ⟨a, b, c, d, rfl⟩
end Go.Proofs.Ytokhogdocaeelaa
