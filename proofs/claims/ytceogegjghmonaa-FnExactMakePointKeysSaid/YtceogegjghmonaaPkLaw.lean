/- The keys of MakePointKeys, held in boxes; KeySavings; plain facts of both laws on point keys. -/
import Derived.Test.YtceogegjghmonaaMpkI
import Derived.Test.YtceogegjghmonaaEvAll
import Derived.Test.YtceogegjghmonaaEncPk
import Derived.Test.YtceogegjghmonaaPkEq
namespace Go.Proofs.Ytceogegjghmonaa
set_option linter.unusedVariables false
open Go.RowKit

/-- A key in a box: it stands, and its corrections are read, in every later world. -/
def HeldK (w : World) (g : Nat) (r b : Int) (v : Value) (xs : List Corr) : Prop := ∀ W, Below w.heap.size w W → (W.cell? ⟨g, 0, none⟩ = some (.int .i64 r) ∧ W.cell? ⟨g, 1, none⟩ = some (.int .i64 b) ∧ W.cell? ⟨g, 2, none⟩ = some v) ∧ RdC W v xs
theorem HeldK.step {w w' : World} {g : Nat} {r b : Int} {v : Value} {xs : List Corr} (h : HeldK w g r b v xs) (hb : Below w.heap.size w w') : HeldK w' g r b v xs := fun W hW => h W (hb.trans (hW.mono hb.size))
theorem HeldK_two {w : World} {ra rb : Int} {n : Nat} {cs : List Corr} {A1 A2 : Option Addr} {l1 c1 l2 c2 : Nat} (hn : cs.length = n) (h1 : w.ownsRow 0 116 3 (.slice A1 l1 c1) n (cellsC cs)) (h2 : w.ownsRow 0 116 3 (.slice A2 l2 c2) n (cellsC cs)) :
    HeldK ((w.alloc (.cells #[.int .i64 ra, .int .i64 0, .slice A1 l1 c1] 63)).alloc (.cells #[.int .i64 rb, .int .i64 1, .slice A2 l2 c2] 63)) w.heap.size ra 0 (.slice A1 l1 c1) cs ∧
    HeldK ((w.alloc (.cells #[.int .i64 ra, .int .i64 0, .slice A1 l1 c1] 63)).alloc (.cells #[.int .i64 rb, .int .i64 1, .slice A2 l2 c2] 63)) (w.heap.size + 1) rb 1 (.slice A2 l2 c2) cs ∧
    Below w.heap.size w ((w.alloc (.cells #[.int .i64 ra, .int .i64 0, .slice A1 l1 c1] 63)).alloc (.cells #[.int .i64 rb, .int .i64 1, .slice A2 l2 c2] 63)) := by
  subst hn
  have r1 : RdC w (.slice A1 l1 c1) cs := OwnC_rd (E := 116) ⟨h1, rfl⟩
  have r2 : RdC w (.slice A2 l2 c2) cs := OwnC_rd (E := 116) ⟨h2, rfl⟩
  obtain ⟨b1, b2, T, _⟩ := boxes2 w 63 #[.int .i64 ra, .int .i64 0, .slice A1 l1 c1] 63 #[.int .i64 rb, .int .i64 1, .slice A2 l2 c2]
  refine ⟨fun W hW => ⟨⟨(b1.below hW b1.lt).cell 0, (b1.below hW b1.lt).cell 1, (b1.below hW b1.lt).cell 2⟩, RdC_reads _ _ _ _ r1 (T.trans (hW.mono T.size))⟩, fun W hW => ⟨⟨(b2.below hW b2.lt).cell 0, (b2.below hW b2.lt).cell 1, (b2.below hW b2.lt).cell 2⟩, RdC_reads _ _ _ _ r2 (T.trans (hW.mono T.size))⟩, T⟩
theorem encPk_low {r b : Int} {xs : List Corr} (h : pkOk r b xs = true) : 3 ≤ (encPk r b xs).length := by
  have h2 := h
  unfold pkOk at h2
  simp at h2
  have u : ∀ z : Int, 0 ≤ z → z ≤ 1000000000000 → 1 ≤ (uvI z).length := fun z h0 h1 => by rw [uvI_yes ⟨h0, h1⟩]; exact (uvF_len _ _).1
  have e : (encPk r b xs).length = (uvI r).length + ((uvI b).length + ((uvI (xs.length : Nat)).length + (encI (xs.flatMap fun x => [x.1, x.2.1, x.2.2])).length)) := by
    unfold encPk
    rw [if_pos h]
    unfold pkInts encI
    simp
  rw [e]
  have := u r (by omega) (by omega)
  have := u b (by omega) (by omega)
  have := u (xs.length : Nat) (by omega) (by omega)
  omega
set_option maxHeartbeats 400000 in
theorem implSav_c (n p : Nat) (w : World) (h1 : 1 ≤ n) (h2 : n ≤ 6) (hp : (2 : Int) ^ n = (p : Int)) (hp1 : p ≤ 64) : Calls Try.prog 51 #[.int .i64 (n : Int)] w fun e w' => e = .returned (.int .i64 ((p : Int) - 2 - 3 * (n : Int))) ∧ w = w' := by
  go_enter Try.func51, Try.ntmps51
  go_wp2_with fail
  refine (implIn_t _ _ _ _ (by omega) (by omega)).mono ?_
  rintro e w' ⟨rfl, rfl⟩
  go_wp2
  go_ret
  exact ⟨ret_int (by omega), rfl⟩
end Go.Proofs.Ytceogegjghmonaa
