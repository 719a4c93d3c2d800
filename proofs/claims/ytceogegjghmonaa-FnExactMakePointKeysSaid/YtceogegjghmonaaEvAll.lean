/- EvaluateAll of both sides. -/
import Derived.Test.YtceogegjghmonaaEvPt
namespace Go.Proofs.Ytceogegjghmonaa
set_option linter.unusedVariables false
open Go.RowKit

def evRow (r b : Int) (xs : List Corr) (n : Nat) : List Int := (List.range n).map fun (i : Nat) => evPt r b xs i
theorem evRow_succ (r b : Int) (xs : List Corr) (n : Nat) : evRow r b xs (n + 1) = evRow r b xs n ++ [evPt r b xs n] := by simp [evRow, List.range_succ]
theorem evRow_len (r b : Int) (xs : List Corr) (n : Nat) : (evRow r b xs n).length = n := by simp [evRow]
def evAll (r b : Int) (xs : List Corr) : List Int := if pkOk r b xs then evRow r b xs (2 ^ xs.length) else []
theorem evAll_len (r b : Int) (xs : List Corr) : (evAll r b xs).length ≤ 64 := by
  unfold evAll
  split
  · rename_i h
    have := pkOk_len h
    rw [evRow_len]
    have := Nat.pow_le_pow_right (n := 2) (by omega) this.2
    omega
  · simp
set_option maxHeartbeats 4000000 in
set_option maxRecDepth 100000 in
theorem implEvAll_c (r b : Int) (v : Value) (xs : List Corr) (w : World) (h : RdC w v xs) :
    Calls Try.prog 45 #[.agg #[.int .i64 r, .int .i64 b, v]] w fun e w' => ∃ v', e = .returned v' ∧ Fresh (Own 3 FI) w w' v' (evAll r b xs) := by
  obtain ⟨A, n, c, rfl, h'⟩ := h
  have hcm := h'.2.2.1
  have hnc := h'.2.1
  unfold maxLen at hcm
  obtain rfl := h'.1
  have h : RdC w (.slice A xs.length c) xs := ⟨_, _, _, rfl, h'⟩
  clear h'
  have T := below_alloc w (.cells #[.int .i64 r, .int .i64 b, .slice A xs.length c] 63)
  have R1 := RdC_reads _ _ _ _ h T
  have BK : Hid (Box (w.alloc (.cells #[.int .i64 r, .int .i64 b, .slice A xs.length c] 63)) w.heap.size 63 #[.int .i64 r, .int .i64 b, .slice A xs.length c]) := Lib.hid (Box.new w _ _)
  have VP : Hid (∀ o, pkOk r b xs = o → ∀ W v, RdC W v xs → Calls Try.prog 46 #[.agg #[.int .i64 r, .int .i64 b, v]] W fun e w' => e = .returned (.bool o) ∧ Below W.heap.size W w') := Lib.hid (fun o ho W v h => by rw [← ho]; exact implIsValidPointKey_c r b v xs W h)
  have HR := Lib.hid h
  clear h
  cases hpk : pkOk r b xs with
  | false =>
    have HE := Lib.hid (show evAll r b xs = [] by unfold evAll; rw [hpk]; rfl)
    rw [HE.out]
    have OP := Lib.hid hpk
    clear hpk HE
    go_enter Try.func45, Try.ntmps45
    go_wp2_with fail
    refine (VP.out _ OP.out _ _ R1).mono ?_
    rintro e w1 ⟨rfl, b1⟩
    have T1 := T.trans (b1.mono T.size)
    have FN : Hid (Fresh (Own 3 FI) w w1 (.slice none 0 0) ([] : List Int)) := Lib.hid (fresh_flatI (World.ownsRow_nil _ _ _ _) rfl (by simp [Value.ownBlock]) T1)
    go_wp2
    go_ret
    exact ⟨_, rfl, FN.out⟩
  | true =>
    have hl := pkOk_len hpk
    obtain ⟨p, hp, hp1, hp2⟩ := pow_bd xs.length hl.2
    have HE := Lib.hid (show evAll r b xs = evRow r b xs p by unfold evAll; rw [hpk]; have e : 2 ^ xs.length = p := by have := hp; exact_mod_cast this
                                                              rw [e]; rfl)
    rw [HE.out]
    have OP := Lib.hid hpk
    clear hpk HE
    go_enter Try.func45, Try.ntmps45
    go_wp2_with fail
    refine (VP.out _ OP.out _ _ R1).mono ?_
    rintro e w1 ⟨rfl, b1⟩
    have T1 := T.trans (b1.mono T.size)
    have B1 := Lib.hid (BK.out.below b1 BK.out.lt)
    have hs1 := b1.size
    have q0 : w1.cell? ⟨w.heap.size, 0, none⟩ = some (.int .i64 r) := B1.out.cell 0
    have q1 : w1.cell? ⟨w.heap.size, 1, none⟩ = some (.int .i64 b) := B1.out.cell 1
    have q2 : w1.cell? ⟨w.heap.size, 2, none⟩ = some (.slice A xs.length c) := B1.out.cell 2
    have qq : ∀ (t : Int), (w1.alloc (.cells #[] 3)).cell? ⟨w.heap.size, 2, none⟩ = some (.slice A xs.length c) := fun _ => (B1.out.alloc _).cell 2
    have q3 := qq 0
    have U0 : Hid (Below (w.heap.size + 1) (w.alloc (.cells #[.int .i64 r, .int .i64 b, .slice A xs.length c] 63)) w1) := Lib.hid (b1.mono (by simp))
    clear qq
    clear b1 T BK R1
    go_wp2
    go_loopw [3, 13] (fun o i wr => ∃ k : Nat, k ≤ p ∧ i = .int .i64 k ∧ Row 3 (w.heap.size + 1) wr o k ((evRow r b xs k).map (fun x => Value.int .i64 x)) ∧ Hid (Box wr w.heap.size 63 #[.int .i64 r, .int .i64 b, .slice A xs.length c]) ∧ Below w.heap.size w wr ∧ Below (w.heap.size + 1) (w.alloc (.cells #[.int .i64 r, .int .i64 b, .slice A xs.length c] 63)) wr) (fun _ i _ => p - (intOf i).toNat)
    case atStart => exact ⟨0, Nat.zero_le _, rfl, Row_lit w1 #[] (by have := B1.out.lt; omega) (by simp), Lib.hid (B1.out.alloc _), T1.alloc T1.size _, U0.out.alloc (by have := B1.out.lt; omega) _⟩
    case round =>
      obtain ⟨k, hk, rfl, hrow, Br, Tr, Ur⟩ := hrel
      clear q0 q1 q2
      have q0 : wr.cell? ⟨w.heap.size, 0, none⟩ = some (.int .i64 r) := Br.out.cell 0
      have q1 : wr.cell? ⟨w.heap.size, 1, none⟩ = some (.int .i64 b) := Br.out.cell 1
      have q2 : wr.cell? ⟨w.heap.size, 2, none⟩ = some (.slice A xs.length c) := Br.out.cell 2
      by_cases hlt : k < p
      · have HS := Lib.hid (evRow_succ r b xs k)
        have rk := RdC_reads _ _ _ _ HR.out Tr
        go_wp2_with fail
        refine (implEvPt_c _ _ _ xs (k : Int) _ rk (by omega) (by omega)).mono ?_
        rintro e w2 ⟨rfl, b2⟩
        have T2 := Lib.hid (Tr.trans (b2.mono Tr.size))
        have U2 := Lib.hid (Ur.trans (b2.mono (by have := Br.out.lt; omega)))
        have B2 := Lib.hid (Br.out.below b2 Br.out.lt)
        have R2 := Lib.hid (hrow.below b2)
        have hs2 := B2.out.lt
        generalize evPt r b xs (k : Int) = y at *
        clear b2 rk hrow Br Tr Ur q0 q1 q2
        go_wp2_with (at_builtin; refine wpList_app elI rfl (.tmp 16) (.tmp 20) rfl _ k _ rfl (R2.out.1.alloc _) (some ⟨w2.heap.size, 0, none⟩) 1 1 [.int .i64 y] rfl (Src_one _ _ _) (one_single _ rfl) (by simp only [maxLen]; omega) (by omega) ?_; intro v3 w3 hown3 hg3 hat3)
        have rr := R2.out.app U2.out (by omega) hown3 hg3 hat3
        rw [show (evRow r b xs k).map (fun x => Value.int .i64 x) ++ [.int .i64 y] = (evRow r b xs (k + 1)).map (fun x => Value.int .i64 x) by rw [HS.out]; simp] at rr
        have t3 := (T2.out.alloc T2.out.size (.cells #[.int .i64 y] 3)).grown hg3 (by simp; omega) (fun q hq => by have := R2.out.2 q hq; omega)
        have b3 : Box w3 w.heap.size 63 #[.int .i64 r, .int .i64 b, .slice A xs.length c] := (B2.out.alloc _).grown hg3 (fun hc => by have := R2.out.2 w.heap.size hc.symm; omega)
        have B3 := Lib.hid b3
        clear b3 hown3 hg3 hat3
        go_roundw
        case rel => exact ⟨k + 1, by omega, by go_num, rr.1, B3, t3, rr.2⟩
        case measure => simp [intOf]; omega
      · have hkn : k = p := by omega
        subst hkn
        go_wp2
        go_ret
        exact ⟨_, rfl, fresh_flatI hrow.1 rfl (fun q hq => by have := hrow.2 q hq; omega) Tr⟩
end Go.Proofs.Ytceogegjghmonaa
