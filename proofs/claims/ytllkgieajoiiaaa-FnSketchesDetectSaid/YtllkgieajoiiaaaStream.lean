/- ControlBit, StreamBytes, CoverCell of both sides. -/
import Derived.Test.YtllkgieajoiiaaaHash
import Derived.Test.YtllkgieajoiiaaaInR
import Derived.Test.YtllkgieajoiiaaaFlat
import Derived.Test.YtllkgieajoiiaaaBits
namespace Go.Proofs.Ytllkgieajoiiaaa
set_option linter.unusedVariables false
open Go.RowKit

def strB (s : Int) (i : Nat) : UInt8 := UInt8.ofInt (childS s (100 + (i : Int)) / 256)
def stream (s : Int) (n : Nat) : List UInt8 := (List.range n).map (strB s)
def streamI (s l : Int) : List UInt8 := if 0 ≤ l ∧ l ≤ 400 then stream s l.toNat else []
theorem stream_succ (s : Int) (n : Nat) : stream s (n + 1) = stream s n ++ [strB s n] := by simp [stream, List.range_succ]
theorem stream_len (s : Int) (n : Nat) : (stream s n).length = n := by simp [stream]
theorem streamI_len (s l : Int) : (streamI s l).length ≤ 400 := by
  unfold streamI
  split
  · rw [stream_len]; omega
  · simp
theorem strB_val (s : Int) (j : Nat) : ((strB s j).toNat : Int) = childS s (100 + (j : Int)) / 256 % 256 := ofInt_toNat _

theorem Row.below {E : TypeId} {B : Nat} {w w' : World} {v : Value} {n : Nat} {cells : List Value} (h : Row E B w v n cells) (hb : Below w.heap.size w w') : Row E B w' v n cells :=
  ⟨ownsRow_at h.1 (fun b hb' => hb.block b (h.1.lt b (by simpa using hb')).2), h.2⟩

set_option maxHeartbeats 1000000 in
theorem specControlBit_c (s d : Int) (w : World) :
    Calls Try.prog 92 #[.int .i64 s, .int .i64 d] w fun e w' => e = .returned (.int .i64 (ctlBit s d)) ∧ Below w.heap.size w w' := by
  go_enter Try.func92, Try.ntmps92
  go_wp2_with fail
  refine (specKeyedHash_c _ _ [53, d] _ (Rd_litI2 w 53 d 3) (by simp)).mono ?_
  rintro e w1 ⟨rfl, b⟩
  have hr := khash_range s [53, d]
  have B := (below_alloc w (.cells #[.int .i64 53, .int .i64 d] 3)).trans (b.mono (by simp))
  have HC : Hid (ctlBit s d = (khash s [53, d] * khash s [53, d] % 2147483647) / 128 % 2) := Lib.hid rfl
  generalize khash s [53, d] = h at *
  have hm : 0 ≤ h * h ∧ h * h < 4611686018427387904 := sq_range h hr.1 hr.2
  clear b
  go_wp2
  go_ret
  exact ⟨ret_int (by rw [i64_and1, HC.out]), B⟩
set_option maxHeartbeats 1000000 in
theorem implControlBit_c (s d : Int) (w : World) :
    Calls Try.prog 72 #[.int .i64 s, .int .i64 d] w fun e w' => e = .returned (.int .i64 (ctlBit s d)) ∧ Below w.heap.size w w' := by
  go_enter Try.func72, Try.ntmps72
  go_wp2_with fail
  refine (implKeyedHash_c _ _ [53, d] _ (Rd_litI2 w 53 d 3) (by simp)).mono ?_
  rintro e w1 ⟨rfl, b⟩
  have hr := khash_range s [53, d]
  have B := (below_alloc w (.cells #[.int .i64 53, .int .i64 d] 3)).trans (b.mono (by simp))
  have HC : Hid (ctlBit s d = (khash s [53, d] * khash s [53, d] % 2147483647) / 128 % 2) := Lib.hid rfl
  generalize khash s [53, d] = h at *
  have hm : 0 ≤ h * h ∧ h * h < 4611686018427387904 := sq_range h hr.1 hr.2
  clear b
  go_wp2
  go_ret
  exact ⟨ret_int (by rw [i64_and1, HC.out]), B⟩
end Go.Proofs.Ytllkgieajoiiaaa
