/- ControlBit, StreamBytes, CoverCell of both sides. -/
import Derived.Test.YtokhogdocaeelaaHash
import Derived.Test.YtokhogdocaeelaaInR
import Derived.Test.YtokhogdocaeelaaFlat
import Derived.Test.YtokhogdocaeelaaBits
namespace Go.Proofs.Ytokhogdocaeelaa
set_option linter.unusedVariables false
open Go.RowKit

def strB (s : Int) (i : Nat) : UInt8 := UInt8.ofInt (childS s (100 + (i : Int)) / 256)
def stream (s : Int) (n : Nat) : List UInt8 := (List.range n).map (strB s)
def streamI (s l : Int) : List UInt8 := if 0 ≤ l ∧ l ≤ 400 then stream s l.toNat else []
theorem stream_succ (s : Int) (n : Nat) : stream s (n + 1) = stream s n ++ [strB s n] := by simp [stream, List.range_succ]
theorem stream_len (s : Int) (n : Nat) : (stream s n).length = n := by simp [stream]
theorem streamI_len (s l : Int) : (streamI s l).length ≤ 400 := by
  unfold streamI
  split
  · rw [stream_len]; omega
  · simp
theorem strB_val (s : Int) (j : Nat) : ((strB s j).toNat : Int) = childS s (100 + (j : Int)) / 256 % 256 := ofInt_toNat _

theorem Row.below {E : TypeId} {B : Nat} {w w' : World} {v : Value} {n : Nat} {cells : List Value} (h : Row E B w v n cells) (hb : Below w.heap.size w w') : Row E B w' v n cells :=
  ⟨ownsRow_at h.1 (fun b hb' => hb.block b (h.1.lt b (by simpa using hb')).2), h.2⟩

set_option maxHeartbeats 1000000 in
theorem specStream_c (s l : Int) (w : World) (h1 : -9223372036854775808 ≤ l) (h2 : l ≤ 9223372036854775807) :
    Calls Try.prog 72 #[.int .i64 s, .int .i64 l] w fun e w' => ∃ v', e = .returned v' ∧ Fresh (Own 5 FB) w w' v' (streamI s l) := by
  by_cases h : 0 ≤ l ∧ l ≤ 400
  · obtain ⟨n, rfl⟩ := Int.eq_ofNat_of_zero_le h.1
    have hn : n ≤ 400 := by omega
    have e : streamI s (n : Int) = stream s n := by unfold streamI; rw [if_pos h, Int.toNat_natCast]
    rw [e]
    clear e h h1 h2
    go_enter Try.func72, Try.ntmps72
    go_wp2
    go_loopw [5, 6] (fun o i wr => ∃ j : Nat, j ≤ n ∧ i = .int .i64 j ∧ Row 5 w.heap.size wr o j ((stream s j).map (fun x => Value.int .u8 (x.toNat : Int))) ∧ Below w.heap.size w wr) (fun _ i _ => n - (intOf i).toNat)
    case atStart => exact ⟨0, Nat.zero_le _, rfl, Row_lit w #[] (Nat.le_refl _) (by simp), below_alloc w _⟩
    case round =>
      obtain ⟨j, hj, rfl, hrow, hb⟩ := hrel
      by_cases hlt : j < n
      · go_wp2_with fail
        refine (specChildSeed_c _ _ _).mono ?_
        rintro e w1 ⟨rfl, b⟩
        have hr := childS_range s (100 + (j : Int))
        have HV := Lib.hid (strB_val s j)
        have HS := Lib.hid (stream_succ s j)
        have hrow1 := hrow.below b
        have hb1 := hb.trans (b.mono hb.size)
        generalize childS s (100 + (j : Int)) = c at *
        have hc : 0 ≤ c / 256 ∧ c / 256 < 8388608 := by omega
        clear b
        go_wp2_with (at_builtin; refine wpList_app elB rfl (.tmp 17) (.tmp 24) rfl _ j _ rfl (hrow1.1.alloc _) (some ⟨w1.heap.size, 0, none⟩) 1 1 [.int .u8 (c / 256 % 256)] rfl (Src_one _ _ _) (one_single _ rfl) (by simp only [maxLen]; omega) (by omega) ?_; intro v2 w2 hown2 hg2 hat2)
        have r := hrow1.app hb1 hb1.size hown2 hg2 hat2
        rw [show (stream s j).map (fun x => Value.int .u8 (x.toNat : Int)) ++ [.int .u8 (c / 256 % 256)] = (stream s (j + 1)).map (fun x => Value.int .u8 (x.toNat : Int)) by rw [HS.out]; simp [HV.out]] at r
        go_roundw
        case rel => exact ⟨j + 1, by omega, by go_num, r.1, r.2⟩
        case measure => simp [intOf]; omega
      · have hjn : j = n := by omega
        subst hjn
        go_wp2
        go_ret
        exact ⟨_, rfl, hrow.freshB hb rfl⟩
  · have e : streamI s l = [] := by unfold streamI; rw [if_neg h]
    rw [e]
    have F : Hid (Fresh (Own 5 FB) w (w.alloc (.cells #[] 5)) (.slice (some ⟨w.heap.size, 0, none⟩) 0 0) ([] : List UInt8)) := Lib.hid ((Row_lit (E := 5) w #[] (Nat.le_refl _) (by simp)).freshB (below_alloc w _) rfl)
    by_cases hp : 0 < l
    · have hp4 : ¬ l ≤ 400 := by omega
      clear e h
      go_enter Try.func72, Try.ntmps72
      go_wp2
      refine wp_loop_rounds 1 ?_
      rw [rounds_succ]
      go_wp2
      go_ret
      exact ⟨_, rfl, F.out⟩
    · clear e h
      go_enter Try.func72, Try.ntmps72
      go_wp2
      refine wp_loop_rounds 1 ?_
      rw [rounds_succ]
      go_wp2
      go_ret
      exact ⟨_, rfl, F.out⟩
set_option maxHeartbeats 1000000 in
theorem implStream_c (s l : Int) (w : World) (h1 : -9223372036854775808 ≤ l) (h2 : l ≤ 9223372036854775807) :
    Calls Try.prog 66 #[.int .i64 s, .int .i64 l] w fun e w' => ∃ v', e = .returned v' ∧ Fresh (Own 5 FB) w w' v' (streamI s l) := by
  by_cases h : 0 ≤ l ∧ l ≤ 400
  · obtain ⟨n, rfl⟩ := Int.eq_ofNat_of_zero_le h.1
    have hn : n ≤ 400 := by omega
    have e : streamI s (n : Int) = stream s n := by unfold streamI; rw [if_pos h, Int.toNat_natCast]
    rw [e]
    clear e h h1 h2
    go_enter Try.func66, Try.ntmps66
    go_wp2_with (go_at_call 91; refine (implIn_t _ _ _ _ (by omega) (by omega)).mono ?_; rintro e w' ⟨rfl, rfl⟩)
    go_loopw [5, 12] (fun o i wr => ∃ j : Nat, j ≤ n ∧ i = .int .i64 j ∧ Row 5 w.heap.size wr o j ((stream s j).map (fun x => Value.int .u8 (x.toNat : Int))) ∧ Below w.heap.size w wr) (fun _ i _ => n - (intOf i).toNat)
    case atStart => exact ⟨0, Nat.zero_le _, rfl, Row_lit w #[] (Nat.le_refl _) (by simp), below_alloc w _⟩
    case round =>
      obtain ⟨j, hj, rfl, hrow, hb⟩ := hrel
      by_cases hlt : j < n
      · go_wp2_with fail
        refine (implChildSeed_c _ _ _).mono ?_
        rintro e w1 ⟨rfl, b⟩
        have hr := childS_range s (100 + (j : Int))
        have HV := Lib.hid (strB_val s j)
        have HS := Lib.hid (stream_succ s j)
        have hrow1 := hrow.below b
        have hb1 := hb.trans (b.mono hb.size)
        generalize childS s (100 + (j : Int)) = c at *
        have hc : 0 ≤ c / 256 ∧ c / 256 < 8388608 := by omega
        clear b
        go_wp2_with (at_builtin; refine wpList_app elB rfl (.tmp 15) (.tmp 22) rfl _ j _ rfl (hrow1.1.alloc _) (some ⟨w1.heap.size, 0, none⟩) 1 1 [.int .u8 (c / 256 % 256)] rfl (Src_one _ _ _) (one_single _ rfl) (by simp only [maxLen]; omega) (by omega) ?_; intro v2 w2 hown2 hg2 hat2)
        have r := hrow1.app hb1 hb1.size hown2 hg2 hat2
        rw [show (stream s j).map (fun x => Value.int .u8 (x.toNat : Int)) ++ [.int .u8 (c / 256 % 256)] = (stream s (j + 1)).map (fun x => Value.int .u8 (x.toNat : Int)) by rw [HS.out]; simp [HV.out]] at r
        go_roundw
        case rel => exact ⟨j + 1, by omega, by go_num, r.1, r.2⟩
        case measure => simp [intOf]; omega
      · have hjn : j = n := by omega
        subst hjn
        go_wp2
        go_ret
        exact ⟨_, rfl, hrow.freshB hb rfl⟩
  · have e : streamI s l = [] := by unfold streamI; rw [if_neg h]
    rw [e]
    have F : Hid (Fresh (Own 5 FB) w w (.slice none 0 0) ([] : List UInt8)) := Lib.hid (fresh_flatB (World.ownsRow_nil _ _ _ _) rfl (by simp [Value.ownBlock]) (Below.refl _ _))
    have HH := Lib.hid h
    clear e h
    go_enter Try.func66, Try.ntmps66
    go_wp2_with (go_at_call 91; refine (implIn_f _ _ _ _ HH.out).mono ?_; rintro e w' ⟨rfl, rfl⟩)
    go_ret
    exact ⟨_, rfl, F.out⟩
set_option maxHeartbeats 1000000 in
theorem specCoverCell_c (s : Int) (w : World) :
    Calls Try.prog 25 #[.int .i64 s] w fun e w' => ∃ v', e = .returned v' ∧ Fresh (Own 5 FB) w w' v' (streamI (khash s [73]) 24) := by
  go_enter Try.func25, Try.ntmps25
  go_wp2_with fail
  refine (specKeyedHash_c _ _ [73] _ (Rd_litI1 w 73 3) (by simp)).mono ?_
  rintro e w1 ⟨rfl, b⟩
  have B := Lib.hid ((below_alloc w (.cells #[.int .i64 73] 3)).trans (b.mono (by simp)))
  clear b
  go_wp2_with fail
  refine (specStream_c _ _ _ (by omega) (by omega)).mono ?_
  rintro e w2 ⟨v2, rfl, F⟩
  have G := Lib.hid (F.pre B.out)
  clear F
  go_wp2
  go_ret
  exact ⟨_, rfl, G.out⟩
set_option maxHeartbeats 1000000 in
theorem implCoverCell_c (s : Int) (w : World) :
    Calls Try.prog 57 #[.int .i64 s] w fun e w' => ∃ v', e = .returned v' ∧ Fresh (Own 5 FB) w w' v' (streamI (khash s [73]) 24) := by
  go_enter Try.func57, Try.ntmps57
  go_wp2_with fail
  refine (implKeyedHash_c _ _ [73] _ (Rd_litI1 w 73 3) (by simp)).mono ?_
  rintro e w1 ⟨rfl, b⟩
  have B := Lib.hid ((below_alloc w (.cells #[.int .i64 73] 3)).trans (b.mono (by simp)))
  clear b
  go_wp2_with fail
  refine (implStream_c _ _ _ (by omega) (by omega)).mono ?_
  rintro e w2 ⟨v2, rfl, F⟩
  have G := Lib.hid (F.pre B.out)
  clear F
  go_wp2
  go_ret
  exact ⟨_, rfl, G.out⟩
end Go.Proofs.Ytokhogdocaeelaa
