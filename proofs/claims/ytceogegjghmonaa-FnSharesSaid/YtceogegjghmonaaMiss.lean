/- MissingShare of the program; lists filled by a law. -/
import Derived.Test.YtceogegjghmonaaXorAlg
import Derived.Test.YtceogegjghmonaaXor
namespace Go.Proofs.Ytceogegjghmonaa
set_option linter.unusedVariables false
open Go.RowKit

set_option maxHeartbeats 1000000 in
theorem implMiss_c (v1 v2 : Value) (l : List (List UInt8)) (x : List UInt8) (w : World) (h1 : Rd (Rd RB) w v1 l) (h2 : Rd RB w v2 x) (hn : tot l ≤ 1048576) (hx : x.length ≤ 1048576) :
    Calls Try.prog 29 #[v1, v2] w fun e w' => ∃ v', e = .returned v' ∧ Fresh (Own 5 FB) w w' v' (xorB x (xorAll l)) := by
  have hxl := xorAll_len l
  have hsl := sumL_le l
  have XA := Lib.hid (implXorAll_c v1 l w h1 hn)
  have HX := Lib.hid h2
  clear h1 h2
  go_enter Try.func29, Try.ntmps29
  go_wp2_with fail
  refine XA.out.mono ?_
  rintro e w1 ⟨v3, rfl, F⟩
  have r3 := (F.iv (Own_good FB_good)).rd (fun q => q.rb)
  have r2 := Rd_reads RB_reads _ _ _ _ HX.out F.below
  have T := Lib.hid F.below
  clear F
  go_wp2_with fail
  refine (implXorBytes_c _ _ x (xorAll l) _ r2 r3 (by omega) (by omega)).mono ?_
  rintro e w2 ⟨v4, rfl, F⟩
  have G := Lib.hid (F.pre T.out)
  clear F r2 r3
  go_wp2
  go_ret
  exact ⟨_, rfl, G.out⟩
theorem tot_LenB {n : Nat} {l : List (List UInt8)} (h : LenB n l) (hl : l.length ≤ 4) (hn : n ≤ 400) : tot l ≤ 1048576 := by
  have : sumL l ≤ l.length * n := by
    induction l with
    | nil => simp [sumL]
    | cons x l ih =>
      have h1 := h x (by simp)
      have h2 := ih (fun y hy => h y (by simp [hy])) (by simp at hl; omega)
      simp only [sumL, List.map_cons, List.sum_cons, List.length_cons, Nat.add_mul, Nat.one_mul] at *
      omega
  have h3 := Nat.mul_le_mul hl hn
  unfold tot
  omega
end Go.Proofs.Ytceogegjghmonaa
