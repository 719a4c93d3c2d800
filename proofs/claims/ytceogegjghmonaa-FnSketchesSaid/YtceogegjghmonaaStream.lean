/- ControlBit, StreamBytes, CoverCell of both sides. -/
import Derived.Test.YtceogegjghmonaaHash
import Derived.Test.YtceogegjghmonaaInR
import Derived.Test.YtceogegjghmonaaFlat
import Derived.Test.YtceogegjghmonaaBits
namespace Go.Proofs.Ytceogegjghmonaa
set_option linter.unusedVariables false
open Go.RowKit

def strB (s : Int) (i : Nat) : UInt8 := UInt8.ofInt (childS s (100 + (i : Int)) / 256)
def stream (s : Int) (n : Nat) : List UInt8 := (List.range n).map (strB s)
def streamI (s l : Int) : List UInt8 := if 0 ≤ l ∧ l ≤ 400 then stream s l.toNat else []
theorem stream_succ (s : Int) (n : Nat) : stream s (n + 1) = stream s n ++ [strB s n] := by simp [stream, List.range_succ]
theorem stream_len (s : Int) (n : Nat) : (stream s n).length = n := by simp [stream]
theorem streamI_len (s l : Int) : (streamI s l).length ≤ 400 := by
  unfold streamI
  split
  · rw [stream_len]; omega
  · simp
theorem strB_val (s : Int) (j : Nat) : ((strB s j).toNat : Int) = childS s (100 + (j : Int)) / 256 % 256 := ofInt_toNat _

theorem Row.below {E : TypeId} {B : Nat} {w w' : World} {v : Value} {n : Nat} {cells : List Value} (h : Row E B w v n cells) (hb : Below w.heap.size w w') : Row E B w' v n cells :=
  ⟨ownsRow_at h.1 (fun b hb' => hb.block b (h.1.lt b (by simpa using hb')).2), h.2⟩

set_option maxHeartbeats 1000000 in
theorem specControlBit_c (s d : Int) (w : World) :
    Calls Try.prog 114 #[.int .i64 s, .int .i64 d] w fun e w' => e = .returned (.int .i64 (ctlBit s d)) ∧ Below w.heap.size w w' := by
  go_enter Try.func114, Try.ntmps114
  go_wp2_with fail
  refine (specKeyedHash_c _ _ [53, d] _ (Rd_litI2 w 53 d 3) (by simp)).mono ?_
  rintro e w1 ⟨rfl, b⟩
  have hr := khash_range s [53, d]
  have B := (below_alloc w (.cells #[.int .i64 53, .int .i64 d] 3)).trans (b.mono (by simp))
  have HC : Hid (ctlBit s d = (khash s [53, d] * khash s [53, d] % 2147483647) / 128 % 2) := Lib.hid rfl
  generalize khash s [53, d] = h at *
  have hm : 0 ≤ h * h ∧ h * h < 4611686018427387904 := sq_range h hr.1 hr.2
  clear b
  go_wp2
  go_ret
  exact ⟨ret_int (by rw [i64_and1, HC.out]), B⟩
set_option maxHeartbeats 1000000 in
theorem implControlBit_c (s d : Int) (w : World) :
    Calls Try.prog 107 #[.int .i64 s, .int .i64 d] w fun e w' => e = .returned (.int .i64 (ctlBit s d)) ∧ Below w.heap.size w w' := by
  go_enter Try.func107, Try.ntmps107
  go_wp2_with fail
  refine (implKeyedHash_c _ _ [53, d] _ (Rd_litI2 w 53 d 3) (by simp)).mono ?_
  rintro e w1 ⟨rfl, b⟩
  have hr := khash_range s [53, d]
  have B := (below_alloc w (.cells #[.int .i64 53, .int .i64 d] 3)).trans (b.mono (by simp))
  have HC : Hid (ctlBit s d = (khash s [53, d] * khash s [53, d] % 2147483647) / 128 % 2) := Lib.hid rfl
  generalize khash s [53, d] = h at *
  have hm : 0 ≤ h * h ∧ h * h < 4611686018427387904 := sq_range h hr.1 hr.2
  clear b
  go_wp2
  go_ret
  exact ⟨ret_int (by rw [i64_and1, HC.out]), B⟩
set_option maxHeartbeats 1000000 in
theorem implStream_c (s l : Int) (w : World) (h1 : -9223372036854775808 ≤ l) (h2 : l ≤ 9223372036854775807) :
    Calls Try.prog 95 #[.int .i64 s, .int .i64 l] w fun e w' => ∃ v', e = .returned v' ∧ Fresh (Own 5 FB) w w' v' (streamI s l) := by
  by_cases h : 0 ≤ l ∧ l ≤ 400
  · obtain ⟨n, rfl⟩ := Int.eq_ofNat_of_zero_le h.1
    have hn : n ≤ 400 := by omega
    have e : streamI s (n : Int) = stream s n := by unfold streamI; rw [if_pos h, Int.toNat_natCast]
    rw [e]
    clear e h h1 h2
    go_enter Try.func95, Try.ntmps95
    go_wp2_with (go_at_call 100; refine (implIn_t _ _ _ _ (by omega) (by omega)).mono ?_; rintro e w' ⟨rfl, rfl⟩)
    go_loopw [5, 12] (fun o i wr => ∃ j : Nat, j ≤ n ∧ i = .int .i64 j ∧ Row 5 w.heap.size wr o j ((stream s j).map (fun x => Value.int .u8 (x.toNat : Int))) ∧ Below w.heap.size w wr) (fun _ i _ => n - (intOf i).toNat)
    case atStart => exact ⟨0, Nat.zero_le _, rfl, Row_lit w #[] (Nat.le_refl _) (by simp), below_alloc w _⟩
    case round =>
      obtain ⟨j, hj, rfl, hrow, hb⟩ := hrel
      by_cases hlt : j < n
      · go_wp2_with fail
        refine (implChildSeed_c _ _ _).mono ?_
        rintro e w1 ⟨rfl, b⟩
        have hr := childS_range s (100 + (j : Int))
        have HV := Lib.hid (strB_val s j)
        have HS := Lib.hid (stream_succ s j)
        have hrow1 := hrow.below b
        have hb1 := hb.trans (b.mono hb.size)
        generalize childS s (100 + (j : Int)) = c at *
        have hc : 0 ≤ c / 256 ∧ c / 256 < 8388608 := by omega
        clear b
        go_wp2_with (at_builtin; refine wpList_app elB rfl (.tmp 15) (.tmp 22) rfl _ j _ rfl (hrow1.1.alloc _) (some ⟨w1.heap.size, 0, none⟩) 1 1 [.int .u8 (c / 256 % 256)] rfl (Src_one _ _ _) (one_single _ rfl) (by simp only [maxLen]; omega) (by omega) ?_; intro v2 w2 hown2 hg2 hat2)
        have r := hrow1.app hb1 hb1.size hown2 hg2 hat2
        rw [show (stream s j).map (fun x => Value.int .u8 (x.toNat : Int)) ++ [.int .u8 (c / 256 % 256)] = (stream s (j + 1)).map (fun x => Value.int .u8 (x.toNat : Int)) by rw [HS.out]; simp [HV.out]] at r
        go_roundw
        case rel => exact ⟨j + 1, by omega, by go_num, r.1, r.2⟩
        case measure => simp [intOf]; omega
      · have hjn : j = n := by omega
        subst hjn
        go_wp2
        go_ret
        exact ⟨_, rfl, hrow.freshB hb rfl⟩
  · have e : streamI s l = [] := by unfold streamI; rw [if_neg h]
    rw [e]
    have F : Hid (Fresh (Own 5 FB) w w (.slice none 0 0) ([] : List UInt8)) := Lib.hid (fresh_flatB (World.ownsRow_nil _ _ _ _) rfl (by simp [Value.ownBlock]) (Below.refl _ _))
    have HH := Lib.hid h
    clear e h
    go_enter Try.func95, Try.ntmps95
    go_wp2_with (go_at_call 100; refine (implIn_f _ _ _ _ HH.out).mono ?_; rintro e w' ⟨rfl, rfl⟩)
    go_ret
    exact ⟨_, rfl, F.out⟩
end Go.Proofs.Ytceogegjghmonaa
