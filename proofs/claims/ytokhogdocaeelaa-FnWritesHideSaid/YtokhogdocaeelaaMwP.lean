/- MakeWrite: what it computes, plain. -/
import Derived.Test.YtokhogdocaeelaaUw
import Derived.Test.YtokhogdocaeelaaPairQ
import Derived.Test.YtokhogdocaeelaaElS
import Derived.Test.YtokhogdocaeelaaStream
namespace Go.Proofs.Ytokhogdocaeelaa
set_option linter.unusedVariables false
open Go.RowKit

def sdI (s : Int) (r : Nat) : Int := IntKind.i64.wrap (s + 1000 * (r : Int))
def mwDb (n : Nat) (s : Int) : Db := (List.range n).map (fun r => streamI (sdI s r) 24)
theorem mwDb_succ (n : Nat) (s : Int) : mwDb (n + 1) s = mwDb n s ++ [streamI (sdI s n) 24] := by simp [mwDb, List.range_succ]
theorem mwDb_len (n : Nat) (s : Int) : (mwDb n s).length = n := by simp [mwDb]
theorem st24 (s : Int) : (streamI s 24).length = 24 := by
  rw [show streamI s 24 = stream s 24 from rfl, stream_len]
theorem mwDb_ok {n : Nat} (s : Int) (h : n ≤ 64) : dbOk (mwDb n s) = true := by
  unfold dbOk
  simp only [Bool.and_eq_true, decide_eq_true_eq, Bool.not_eq_true', List.any_eq_false, bne_iff_ne, ne_eq, Decidable.not_not]
  refine ⟨by rw [mwDb_len]; exact h, fun x hx => ?_⟩
  unfold mwDb at hx
  obtain ⟨r, _, rfl⟩ := List.mem_map.1 hx
  exact st24 _
def mwF (u : Db) (n : Nat) (l : List Int) : Db := (l.map (mwDb n)).foldl xorDb u
theorem mwF_snoc (u : Db) (n : Nat) (l : List Int) (s : Int) : mwF u n (l ++ [s]) = xorDb (mwF u n l) (mwDb n s) := by simp [mwF]
theorem xd_of {a b : Db} (ha : dbOk a = true) (hb : dbOk b = true) (hl : a.length = b.length) : xdOk a b = true := by
  unfold xdOk
  rw [ha, hb, decide_eq_true hl]
  rfl
theorem xorDb_len {a b : Db} (h : xdOk a b = true) : (xorDb a b).length = a.length := by
  obtain ⟨_, _, hl⟩ := xd_parts h
  unfold xorDb
  rw [if_pos h, List.length_zipWith]
  omega
theorem mwF_ok {u : Db} {n : Nat} (hn : n ≤ 64) (hu : dbOk u = true) (hl : u.length = n) (l : List Int) : dbOk (mwF u n l) = true ∧ (mwF u n l).length = n := by
  unfold mwF
  induction l generalizing u with
  | nil => exact ⟨hu, hl⟩
  | cons s t ih =>
    rw [List.map_cons, List.foldl_cons]
    have hx : xdOk u (mwDb n s) = true := xd_of hu (mwDb_ok s hn) (by rw [mwDb_len]; exact hl)
    exact ih (xd_valid hx) (by rw [xorDb_len hx]; exact hl)
theorem mwF_xd {u : Db} {n : Nat} (hn : n ≤ 64) (hu : dbOk u = true) (hl : u.length = n) (l : List Int) (s : Int) : xdOk (mwF u n l) (mwDb n s) = true := by
  obtain ⟨a, b⟩ := mwF_ok hn hu hl l
  exact xd_of a (mwDb_ok s hn) (by rw [mwDb_len]; exact b)
def mwOk (rows ix : Int) (cell : List UInt8) (seeds : List Int) : Bool := uwOk rows ix cell && decide (1 ≤ seeds.length ∧ seeds.length ≤ 3)
def mw (rows ix : Int) (cell : List UInt8) (seeds : List Int) : List Db := if mwOk rows ix cell seeds then seeds.map (mwDb rows.toNat) ++ [mwF (uwV rows ix cell) rows.toNat seeds] else []
theorem mw_no1 {rows ix : Int} {cell : List UInt8} {seeds : List Int} (h : uwOk rows ix cell = false) : mw rows ix cell seeds = [] := by unfold mw mwOk; rw [h]; rfl
theorem mw_no2 {rows ix : Int} {cell : List UInt8} {seeds : List Int} (h : ¬ (1 ≤ seeds.length ∧ seeds.length ≤ 3)) : mw rows ix cell seeds = [] := by unfold mw mwOk; rw [decide_eq_false h, Bool.and_false]; rfl
theorem mw_yes {rows ix : Int} {cell : List UInt8} {seeds : List Int} (h : uwOk rows ix cell = true) (h2 : 1 ≤ seeds.length ∧ seeds.length ≤ 3) : mw rows ix cell seeds = seeds.map (mwDb rows.toNat) ++ [mwF (uwV rows ix cell) rows.toNat seeds] := by unfold mw mwOk; rw [h, decide_eq_true h2]; rfl
theorem uw_len {rows ix : Int} {cell : List UInt8} (h : uwOk rows ix cell = true) : ((uwV rows ix cell).length : Int) = rows := by
  unfold uwV repRow
  rw [if_pos (uw_rep h), List.length_set]
  exact newDb_len (uw_rows h)
theorem sumD_snoc (l : List Db) (d : Db) : sumD (l ++ [d]) = sumD l + sumL d := by simp [sumD, sumF]
theorem mw_bd (rows ix : Int) (cell : List UInt8) (seeds : List Int) : sumD (mw rows ix cell seeds) ≤ 6400 := by
  cases h : uwOk rows ix cell with
  | false => rw [mw_no1 h]; simp [sumD, sumF]
  | true =>
    by_cases h2 : 1 ≤ seeds.length ∧ seeds.length ≤ 3
    · rw [mw_yes h h2, sumD_snoc]
      have hr := uw_rows h
      have hl := uw_len h
      have hn : rows.toNat ≤ 64 := by omega
      have h3 := sumL_le (mwF (uwV rows ix cell) rows.toNat seeds)
      have h4 := db_tot (mwF_ok hn (uw_valid h) (by omega) seeds).1
      have h5 : sumD (seeds.map (mwDb rows.toNat)) ≤ 1600 * seeds.length := by
        generalize seeds = l
        induction l with
        | nil => simp [sumD, sumF]
        | cons s t ih =>
          have a := sumL_le (mwDb rows.toNat s)
          have b := db_tot (mwDb_ok s hn)
          simp [sumD, sumF] at *
          omega
      omega
    · rw [mw_no2 h2]; simp [sumD, sumF]
theorem fresh_nilDD (w w' : World) (hb : Below w.heap.size w w') : Fresh ODB w w' (.slice none 0 0) ([] : List Db) :=
  ⟨[], ⟨[], [], World.ownsRow_nil _ _ _ _, rfl, rfl⟩, by simp, by simp, hb⟩
/-- What MakeWrite's blocks have in common: made since w, and none is the box at g. -/
def MwQ (w : World) (g : Nat) (b : Nat) : Prop := w.heap.size ≤ b ∧ b ≠ g
theorem MwQ_start {w w1 : World} {vl : Value} {x : Db} {cs : Array Value} (hu : Fresh OBB w w1 vl x) : PairQ 31 OBB (MwQ w w1.heap.size) ((w1.alloc (.cells cs 31)).alloc (.cells #[] 31)) (.slice (some ⟨w1.heap.size + 1, 0, none⟩) 0 0) 0 [] vl x := by
  obtain ⟨Fl, f1, f2, f3, f4⟩ := hu
  have ho := World.ownsRow_lit (base := 0) (e := 31) (size := 1) (w1.alloc (.cells cs 31)) (#[] : Array Value) 0 (Nat.zero_le _) (by simp) (by simp)
  rw [World.size_alloc] at ho
  have hlt : ∀ b, b ∈ Fl → b < w1.heap.size := fun b hb => OBB_good.lt f1 b hb
  have hs := f4.size
  refine ⟨[], [], Fl, by simpa using ho, rfl, OBB_good.stab f1 (fun b hb => ?_), ?_, fun b hb => ?_⟩
  · have := hlt b hb
    rw [Below.heap_alloc _ _ _ (by simp; omega), Below.heap_alloc _ _ _ this]
  · simp only [Value.ownBlock, Option.toList_some, List.nil_append, List.cons_append, List.nodup_cons]
    exact ⟨fun hm => by have := hlt _ hm; omega, f2⟩
  · simp only [Value.ownBlock, Option.toList_some, List.nil_append, List.cons_append, List.mem_cons] at hb
    rcases hb with rfl | hb
    · exact ⟨by omega, by omega⟩
    · have := hlt b hb
      exact ⟨f3 b hb, by omega⟩
theorem MwQ_start2 {w w2 w3 : World} {vo vl : Value} {x : Db} (hn : NRow 31 OBB w.heap.size w2 vo 0 ([] : List Db) []) (hs : w.heap.size ≤ w2.heap.size) (hu : Fresh OBB w2 w3 vl x) (o : Obj) : PairQ 31 OBB (MwQ w w3.heap.size) (w3.alloc o) vo 0 [] vl x :=
  ((((Pair_fresh OBB_good hn hu hs).q OBB_good).mono (fun b _ h => ⟨h.1, by omega⟩) OBB_good)).below OBB_good (below_alloc w3 o)
end Go.Proofs.Ytokhogdocaeelaa
