/- Exclusive or on lists of bytes: plain lists. -/
namespace Go.Proofs.Ytokhogdocaeelaa
set_option linter.unusedVariables false

def xorB : List UInt8 → List UInt8 → List UInt8
  | [], ys => ys
  | xs, [] => xs
  | x :: xs, y :: ys => (x ^^^ y) :: xorB xs ys

theorem xorB_nil (xs : List UInt8) : xorB xs [] = xs := by cases xs <;> rfl

theorem xorB_len (xs ys : List UInt8) : (xorB xs ys).length = max xs.length ys.length := by
  induction xs generalizing ys with
  | nil => simp [xorB]
  | cons x xs ih => cases ys with
    | nil => simp [xorB]
    | cons y ys => simp [xorB, ih]

theorem xorB_comm (xs ys : List UInt8) : xorB xs ys = xorB ys xs := by
  induction xs generalizing ys with
  | nil => rw [xorB_nil]; rfl
  | cons x xs ih => cases ys with
    | nil => rfl
    | cons y ys => simp [xorB, ih ys, UInt8.xor_comm x y]

theorem xorB_both (xs ys : List UInt8) (k : Nat) (x y : UInt8) (hx : xs[k]? = some x) (hy : ys[k]? = some y) : (xorB xs ys)[k]? = some (x ^^^ y) := by
  induction xs generalizing ys k with
  | nil => simp at hx
  | cons a xs ih => cases ys with
    | nil => simp at hy
    | cons b ys => cases k with
      | zero => simp at hx hy; subst hx hy; simp [xorB]
      | succ k => simp at hx hy; simpa [xorB] using ih ys k hx hy

theorem xorB_left (xs ys : List UInt8) (k : Nat) (x : UInt8) (hx : xs[k]? = some x) (hy : ys.length ≤ k) : (xorB xs ys)[k]? = some x := by
  induction xs generalizing ys k with
  | nil => simp at hx
  | cons a xs ih => cases ys with
    | nil => simpa [xorB] using hx
    | cons b ys => cases k with
      | zero => simp at hy
      | succ k => simp at hx hy; simpa [xorB] using ih ys k hx hy

theorem xorB_right (xs ys : List UInt8) (k : Nat) (y : UInt8) (hy : ys[k]? = some y) (hx : xs.length ≤ k) : (xorB xs ys)[k]? = some y := by
  rw [xorB_comm]; exact xorB_left ys xs k y hy hx

theorem xorB_self (xs : List UInt8) : xorB xs xs = List.replicate xs.length 0 := by
  induction xs with
  | nil => rfl
  | cons x xs ih => simp [xorB, ih, List.replicate_succ]

theorem xorB_assoc (xs ys zs : List UInt8) : xorB (xorB xs ys) zs = xorB xs (xorB ys zs) := by
  induction xs generalizing ys zs with
  | nil => rfl
  | cons x xs ih => cases ys with
    | nil => simp [xorB]
    | cons y ys => cases zs with
      | nil => simp [xorB]
      | cons z zs => simp [xorB, ih, UInt8.xor_assoc]

theorem xorB_zero (n : Nat) (xs : List UInt8) (h : n ≤ xs.length) : xorB (List.replicate n 0) xs = xs := by
  induction n generalizing xs with
  | zero => rfl
  | succ n ih => cases xs with
    | nil => simp at h
    | cons x xs => simp at h; simp [List.replicate_succ, xorB, ih xs h]

theorem xorB_take_succ (xs ys : List UInt8) (k : Nat) (x y : UInt8) (hx : xs[k]? = some x) (hy : ys[k]? = some y) : xorB xs (ys.take (k + 1)) = (xorB xs (ys.take k)).set k (x ^^^ y) := by
  induction xs generalizing ys k with
  | nil => simp at hx
  | cons a xs ih => cases ys with
    | nil => simp at hy
    | cons b ys => cases k with
      | zero => simp at hx hy; subst hx hy; cases xs <;> simp [xorB]
      | succ k => simp at hx hy; simp [xorB, ih ys k hx hy]
end Go.Proofs.Ytokhogdocaeelaa
