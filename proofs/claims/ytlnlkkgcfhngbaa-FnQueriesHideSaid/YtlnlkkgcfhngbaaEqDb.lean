/- Equality of byte lists and databases on both sides; CountRowsWritten. -/
import Derived.Test.YtlnlkkgcfhngbaaFunc
import Derived.Laws.BytesArg
import Derived.Deep.RegionHeld3
namespace Go.Proofs.Ytlnlkkgcfhngbaa
set_option linter.unusedVariables false
open Go.RowKit

theorem run_str {w : World} {A : Option Addr} {n c : Nat} {xs : List UInt8} (h : RdAt RB w A n c xs) {src e dst : TypeId} {P : Program} (hs : P.underlying src = some (.slice e)) (he : P.underlying e = some (.int .u8)) (hd : P.underlying dst = some .string) :
    (convert src dst (.slice A n c)).run P w = .ok (.string ⟨xs.toArray⟩) w := by
  rcases Nat.eq_zero_or_pos n with h0 | hp
  · subst h0
    have hx : xs = [] := List.eq_nil_of_length_eq_zero h.1
    subst hx
    rw [run_convert_bytes_string w src dst e _ 0 c hs he hd]
    cases A with
    | none => simp [Conv.bytesToString]; rfl
    | some a =>
      rw [run_bytesToString w a 0 c [] (by have := run_loadCells_list (P := P) w a [] (fun j v hj => by simp at hj); simpa using this)]
      rfl
  · obtain ⟨b, off, rfl, hb, hc⟩ := h.2.2.2 hp
    have := run_convert_bytes_arg (P := P) w src e hs he b off n c (xs.map fun x => (x.toNat : Int)) (by simpa using h.1) (fun i hi => by
      have hil : i < xs.length := by rw [h.1]; exact hi
      obtain ⟨u, hu, hr⟩ := hc i _ (List.getElem?_eq_getElem hil)
      unfold RB at hr
      subst hr
      simpa [List.getD, List.getElem?_eq_getElem hil] using hu) dst hd
    rw [this]
    have hm : (xs.map fun x => (x.toNat : Int)).map (fun n => UInt8.ofNat n.toNat) = xs := by
      rw [List.map_map]
      exact (List.map_congr_left (g := id) fun x hx => by simp).trans (List.map_id _)
    unfold strOfNums
    rw [hm]

theorem str_beq (xs ys : List UInt8) : (xs == ys) = decide (xs = ys) := by
  by_cases h : xs = ys
  · subst h; simp
  · rw [decide_eq_false h]
    exact beq_eq_false_iff_ne.2 h

theorem take_eq_succ {α : Type} {xs ys : List α} {k : Nat} {x : α} (h : xs.take k = ys.take k) (hx : xs[k]? = some x) (hy : ys[k]? = some x) : xs.take (k + 1) = ys.take (k + 1) := by
  rw [take_succ_get xs k x hx, take_succ_get ys k x hy, h]
theorem ne_of_get {α : Type} {xs ys : List α} {k : Nat} {x y : α} (hx : xs[k]? = some x) (hy : ys[k]? = some y) (h : x ≠ y) : xs ≠ ys := fun e => by
  subst e; rw [hx] at hy; injection hy with hy; exact h hy

end Go.Proofs.Ytlnlkkgcfhngbaa
