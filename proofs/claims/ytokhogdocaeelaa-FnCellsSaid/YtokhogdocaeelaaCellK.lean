/- The cell's key, its check bytes, and IsValidKey. -/
import Derived.Test.YtokhogdocaeelaaEnc
import Derived.Test.YtokhogdocaeelaaCellCheck
import Derived.Test.YtokhogdocaeelaaInR
namespace Go.Proofs.Ytokhogdocaeelaa
set_option linter.unusedVariables false
open Go.RowKit

def keyOk (k : Int) : Bool := decide (1 ≤ k ∧ k ≤ 2147483646)
def cellK (k c : Int) : Int := if khash k [67, c] = 0 then 1 else khash k [67, c]
def ckB (n : Int) : List UInt8 := [UInt8.ofInt n, UInt8.ofInt (n / 256), UInt8.ofInt (n / 65536), UInt8.ofInt (n / 16777216)]
theorem implKey_c (k : Int) (w : World) : Calls Try.prog 90 #[.int .i64 k] w fun e w' => e = .returned (.bool (keyOk k)) ∧ w = w' := by
  by_cases h : 1 ≤ k ∧ k ≤ 2147483646
  · have e : keyOk k = true := decide_eq_true h
    rw [e]
    go_enter Try.func90, Try.ntmps90
    go_wp2_with fail
    refine (implIn_t _ _ _ _ h.1 h.2).mono ?_
    rintro e w' ⟨rfl, rfl⟩
    go_wp2
    go_ret
    exact ⟨rfl, rfl⟩
  · have e : keyOk k = false := decide_eq_false h
    rw [e]
    have H := Lib.hid h
    clear h e
    go_enter Try.func90, Try.ntmps90
    go_wp2_with fail
    refine (implIn_f _ _ _ _ H.out).mono ?_
    rintro e w' ⟨rfl, rfl⟩
    go_wp2
    go_ret
    exact ⟨rfl, rfl⟩
theorem specKey_c (k : Int) (w : World) : Calls Try.prog 55 #[.int .i64 k] w fun e w' => e = .returned (.bool (keyOk k)) ∧ w = w' := by
  by_cases h : 1 ≤ k ∧ k ≤ 2147483646
  · have e : keyOk k = true := decide_eq_true h
    rw [e]
    go_enter Try.func55, Try.ntmps55
    go_wp2_with fail
    refine (specIn_t _ _ _ _ h.1 h.2).mono ?_
    rintro e w' ⟨rfl, rfl⟩
    go_wp2
    go_ret
    exact ⟨rfl, rfl⟩
  · have e : keyOk k = false := decide_eq_false h
    rw [e]
    have H := Lib.hid h
    clear h e
    go_enter Try.func55, Try.ntmps55
    go_wp2_with fail
    refine (specIn_f _ _ _ _ H.out).mono ?_
    rintro e w' ⟨rfl, rfl⟩
    go_wp2
    go_ret
    exact ⟨rfl, rfl⟩
theorem implOrOne_c (n : Int) (w : World) : Calls Try.prog 124 #[.int .i64 n] w fun e w' => e = .returned (.int .i64 (if n = 0 then 1 else n)) ∧ w = w' := by
  by_cases h : n = 0
  · subst h
    rw [if_pos rfl]
    go_enter Try.func124, Try.ntmps124
    go_wp2
    go_ret
    exact ⟨rfl, rfl⟩
  · rw [if_neg h]
    go_enter Try.func124, Try.ntmps124
    go_wp2
    go_ret
    exact ⟨rfl, rfl⟩
theorem rd_two (a b : Int) (w : World) : Rd RI (w.alloc (.cells #[.int .i64 a, .int .i64 b] 3)) (.slice (some ⟨w.heap.size, 0, none⟩) 2 2) [a, b] :=
  rd_rowI (Row_lit (E := 3) (B := w.heap.size) w #[.int .i64 a, .int .i64 b] (Nat.le_refl _) (by simp [maxLen])).1 rfl
theorem implCellKey_c (k c : Int) (w : World) : Calls Try.prog 95 #[.int .i64 k, .int .i64 c] w fun e w' => e = .returned (.int .i64 (cellK k c)) ∧ Below w.heap.size w w' := by
  have KH := Lib.hid (implKeyedHash_c k _ [67, c] _ (rd_two 67 c w) (by simp))
  have bl := below_alloc w (.cells #[.int .i64 67, .int .i64 c] 3)
  obtain ⟨z, hz⟩ : ∃ z, cellK k c = z := ⟨_, rfl⟩
  rw [hz]
  obtain ⟨y, hy⟩ : ∃ y, khash k [67, c] = y := ⟨_, rfl⟩
  have HZ := Lib.hid hz
  have HYY := Lib.hid hy
  rw [hy] at KH
  clear hz hy
  go_enter Try.func95, Try.ntmps95
  go_wp2_with fail
  refine KH.out.mono ?_
  rintro e w1 ⟨rfl, b1⟩
  have T := bl.trans (b1.mono bl.size)
  have OO : Hid (Calls Try.prog 124 #[.int .i64 y] w1 fun e w' => e = .returned (.int .i64 z) ∧ w1 = w') := Lib.hid (by have := implOrOne_c y w1; rwa [show (if y = 0 then (1 : Int) else y) = z by rw [← HZ.out, ← HYY.out]; rfl] at this)
  clear KH bl b1
  go_wp2_with fail
  refine OO.out.mono ?_
  rintro e w' ⟨rfl, rfl⟩
  go_wp2
  go_ret
  exact ⟨rfl, T⟩
theorem specMax1_c (n : Int) (w : World) (h : 0 ≤ n) : Calls Try.prog 122 #[.int .i64 1, .int .i64 n] w fun e w' => e = .returned (.int .i64 (if n = 0 then 1 else n)) ∧ w = w' := by
  by_cases h0 : n = 0
  · subst h0
    rw [if_pos rfl]
    go_enter Try.func122, Try.ntmps122
    go_wp2
    go_ret
    exact ⟨rfl, rfl⟩
  · rw [if_neg h0]
    by_cases h1 : 1 < n
    · go_enter Try.func122, Try.ntmps122
      go_wp2
      go_ret
      exact ⟨rfl, rfl⟩
    · obtain rfl : n = 1 := by omega
      go_enter Try.func122, Try.ntmps122
      go_wp2
      go_ret
      exact ⟨rfl, rfl⟩
theorem specCellKey_c (k c : Int) (w : World) : Calls Try.prog 89 #[.int .i64 k, .int .i64 c] w fun e w' => e = .returned (.int .i64 (cellK k c)) ∧ Below w.heap.size w w' := by
  have KH := Lib.hid (specKeyedHash_c k _ [67, c] _ (rd_two 67 c w) (by simp))
  have bl := below_alloc w (.cells #[.int .i64 67, .int .i64 c] 3)
  have hr := (khash_range k [67, c]).1
  obtain ⟨z, hz⟩ : ∃ z, cellK k c = z := ⟨_, rfl⟩
  rw [hz]
  obtain ⟨y, hy⟩ : ∃ y, khash k [67, c] = y := ⟨_, rfl⟩
  have HZ := Lib.hid hz
  have HYY := Lib.hid hy
  rw [hy] at KH
  clear hz hy
  go_enter Try.func89, Try.ntmps89
  go_wp2_with fail
  refine KH.out.mono ?_
  rintro e w1 ⟨rfl, b1⟩
  have T := bl.trans (b1.mono bl.size)
  have OO : Hid (Calls Try.prog 122 #[.int .i64 1, .int .i64 y] w1 fun e w' => e = .returned (.int .i64 z) ∧ w1 = w') := Lib.hid (by have := specMax1_c y w1 (by rw [← HYY.out]; exact hr); rwa [show (if y = 0 then (1 : Int) else y) = z by rw [← HZ.out, ← HYY.out]; rfl] at this)
  clear KH bl b1
  go_wp2_with fail
  refine OO.out.mono ?_
  rintro e w' ⟨rfl, rfl⟩
  go_wp2
  go_ret
  exact ⟨rfl, T⟩
set_option maxHeartbeats 1000000 in
theorem implCkB_c (k c : Int) (v : Value) (d : List UInt8) (w : World) (h : Rd RB w v d) (hn : d.length ≤ 17179869184) : Calls Try.prog 93 #[.int .i64 k, .int .i64 c, v] w fun e w' => ∃ v', e = .returned v' ∧ Fresh (Own 5 FB) w w' v' (ckB (cellCk k c d)) := by
  have CK := Lib.hid (implCellCheck_c k c v d w h hn)
  have hr := khash_range k (cellInts c d)
  obtain ⟨y, hy⟩ : ∃ y, cellCk k c d = y := ⟨_, rfl⟩
  have hr2 : 0 ≤ y ∧ y < 2147483647 := by rw [← hy]; exact hr
  rw [hy] at CK
  rw [hy]
  clear h hr hy
  go_enter Try.func93, Try.ntmps93
  go_wp2_with fail
  refine CK.out.mono ?_
  rintro e w1 ⟨rfl, b1⟩
  have he : (#[.int .u8 (y % 256), .int .u8 (y / 256 % 256), .int .u8 (y / 65536 % 256), .int .u8 (y / 16777216)] : Array Value).toList = (ckB y).map (fun x => Value.int .u8 (x.toNat : Int)) := by
    have h4 : y / 16777216 % 256 = y / 16777216 := by omega
    simp [ckB, ofInt_toNat, h4]
  have R := Row_lit (E := 5) (B := w.heap.size) w1 #[.int .u8 (y % 256), .int .u8 (y / 256 % 256), .int .u8 (y / 65536 % 256), .int .u8 (y / 16777216)] b1.size (by simp [maxLen])
  have F := Lib.hid (R.freshB (b1.alloc b1.size _) he)
  clear he R
  go_wp2
  go_ret
  exact ⟨_, rfl, F.out⟩
end Go.Proofs.Ytokhogdocaeelaa
