/- A sealed cell: what SealCell computes. Plain. -/
import Derived.Test.YtokhogdocaeelaaCellK
import Derived.Test.YtokhogdocaeelaaTo
namespace Go.Proofs.Ytokhogdocaeelaa
set_option linter.unusedVariables false
open Go.RowKit

def cntOk (c : Int) : Bool := decide (0 ≤ c ∧ c ≤ 1000000000000)
def plnB (k c m : Int) (body : List UInt8) : List UInt8 := [UInt8.ofInt m, UInt8.ofInt (body.length : Nat)] ++ body ++ (stream (khash k [61, c]) 18).drop body.length
def sealD (k c m : Int) (body : List UInt8) : List UInt8 := enc (cellK k c) (plnB k c m body)
def sealOk (k c m : Int) (body : List UInt8) : Bool := keyOk k && cntOk c && plainOk m body
def sealC (k c m : Int) (body : List UInt8) : List UInt8 := if sealOk k c m body then sealD k c m body ++ ckB (cellCk k c (sealD k c m body)) else []
theorem plnB_len (k c m : Int) (body : List UInt8) (h : body.length ≤ 14) : (plnB k c m body).length = 20 := by
  unfold plnB
  simp [stream_len]
  omega
theorem sealD_len (k c m : Int) (body : List UInt8) (h : body.length ≤ 14) : (sealD k c m body).length = 20 := by
  unfold sealD
  rw [enc_len, plnB_len k c m body h]
theorem sealC_len (k c m : Int) (body : List UInt8) (h : sealOk k c m body = true) : (sealC k c m body).length = 24 := by
  have hb : body.length ≤ 14 := by
    unfold sealOk plainOk at h
    simp at h
    exact h.2.2.2
  unfold sealC
  rw [if_pos h, List.length_append, sealD_len k c m body hb]
  rfl
/-- What OpenCell computes: the check bytes, then the plain's kind and body. -/
def openOk (k c : Int) (cell : List UInt8) : Bool := keyOk k && cntOk c && decide (cell.length = 24) && decide (cell.drop 20 = ckB (cellCk k c (cell.take 20))) && decide ((((dec (cellK k c) (cell.take 20)).getD 0 0).toNat : Int) ≤ 3 ∧ (((dec (cellK k c) (cell.take 20)).getD 1 0).toNat : Int) ≤ 14)
def openB (k c : Int) (cell : List UInt8) : List UInt8 := ((dec (cellK k c) (cell.take 20)).drop 2).take ((dec (cellK k c) (cell.take 20)).getD 1 0).toNat
def openM (k c : Int) (cell : List UInt8) : Int := (((dec (cellK k c) (cell.take 20)).getD 0 0).toNat : Int)
theorem open_seal (k c m : Int) (body : List UInt8) (h : sealOk k c m body = true) : openOk k c (sealC k c m body) = true ∧ openM k c (sealC k c m body) = m ∧ openB k c (sealC k c m body) = body := by
  have hh := h
  unfold sealOk plainOk at hh
  simp only [Bool.and_eq_true, decide_eq_true_eq] at hh
  obtain ⟨⟨hk, hc⟩, hm1, hm2, hb⟩ := hh
  have hs : sealC k c m body = sealD k c m body ++ ckB (cellCk k c (sealD k c m body)) := by unfold sealC; rw [if_pos h]
  have hl := sealD_len k c m body hb
  have ht : (sealC k c m body).take 20 = sealD k c m body := by rw [hs, List.take_append_of_le_length (by omega), List.take_of_length_le (by omega)]
  have hd : (sealC k c m body).drop 20 = ckB (cellCk k c (sealD k c m body)) := by rw [hs, List.drop_append_of_le_length (by omega), List.drop_of_length_le (by omega), List.nil_append]
  have hp : dec (cellK k c) (sealD k c m body) = plnB k c m body := dec_enc _ _
  have e0 : (plnB k c m body).getD 0 0 = UInt8.ofInt m := rfl
  have e1 : (plnB k c m body).getD 1 0 = UInt8.ofInt (body.length : Nat) := rfl
  have v0 : ((UInt8.ofInt m).toNat : Int) = m := by rw [ofInt_toNat]; omega
  have v1 : ((UInt8.ofInt (body.length : Nat)).toNat : Int) = (body.length : Nat) := by rw [ofInt_toNat]; omega
  have v1' : (UInt8.ofInt (body.length : Nat)).toNat = body.length := by omega
  refine ⟨?_, ?_, ?_⟩
  · unfold openOk
    rw [ht, hd, hp, e0, e1, hk, hc, sealC_len k c m body h, v0, v1]
    simp
    omega
  · unfold openM
    rw [ht, hp, e0, v0]
  · unfold openB
    rw [ht, hp, e1, v1']
    unfold plnB
    simp
end Go.Proofs.Ytokhogdocaeelaa
