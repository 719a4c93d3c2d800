/- AppendUvarint and EncodeInts of both sides. -/
import Derived.Test.YtceogegjghmonaaStream
import Derived.Test.YtceogegjghmonaaRead
namespace Go.Proofs.Ytceogegjghmonaa
set_option linter.unusedVariables false
open Go.RowKit

def uvF : Nat → Nat → List UInt8
  | 0, n => [UInt8.ofNat n]
  | f + 1, n => if n < 128 then [UInt8.ofNat n] else UInt8.ofNat (n % 128 + 128) :: uvF f (n / 128)
def uvI (n : Int) : List UInt8 := if 0 ≤ n ∧ n ≤ 1000000000000 then uvF 10 n.toNat else []
def encI (l : List Int) : List UInt8 := (l.map uvI).flatten
theorem uvF_len (f n : Nat) : 1 ≤ (uvF f n).length ∧ (uvF f n).length ≤ f + 1 := by
  induction f generalizing n with
  | zero => simp [uvF]
  | succ f ih =>
    unfold uvF
    split
    · simp
    · have := ih (n / 128); simp; omega
theorem uvF_low {f n : Nat} (h : n < 128) : uvF f n = [UInt8.ofNat n] := by
  cases f with
  | zero => rfl
  | succ f => unfold uvF; rw [if_pos h]
theorem uvF_high {f n : Nat} (h : ¬ n < 128) : uvF (f + 1) n = UInt8.ofNat (n % 128 + 128) :: uvF f (n / 128) := by
  conv => lhs; unfold uvF
  rw [if_neg h]
theorem uvI_yes {n : Int} (h : 0 ≤ n ∧ n ≤ 1000000000000) : uvI n = uvF 10 n.toNat := by unfold uvI; rw [if_pos h]
theorem uvI_no {n : Int} (h : ¬ (0 ≤ n ∧ n ≤ 1000000000000)) : uvI n = [] := by unfold uvI; rw [if_neg h]
theorem uvI_len (n : Int) : (uvI n).length ≤ 11 := by
  unfold uvI
  split
  · exact (uvF_len _ _).2
  · simp
theorem encI_snoc (l : List Int) (x : Int) : encI (l ++ [x]) = encI l ++ uvI x := by simp [encI]
theorem encI_len (l : List Int) : (encI l).length ≤ 11 * l.length := by
  induction l with
  | nil => simp [encI]
  | cons x l ih =>
    have h1 := uvI_len x
    have : (encI (x :: l)).length = (uvI x).length + (encI l).length := by simp [encI]
    rw [this, List.length_cons]
    omega
theorem or8 (a : Nat) (h : a < 256) : bits .or .u8 (a : Int) 128 = ((a % 128 + 128 : Nat) : Int) := by
  have : ∀ a : Fin 256, bits .or .u8 ((a.val : Nat) : Int) 128 = ((a.val % 128 + 128 : Nat) : Int) := by decide +kernel
  exact this ⟨a, h⟩
theorem or64 (a : Nat) (h : a < 128) : bits .or .i64 (a : Int) 128 = ((a + 128 : Nat) : Int) := by
  have : ∀ a : Fin 128, bits .or .i64 ((a.val : Nat) : Int) 128 = ((a.val + 128 : Nat) : Int) := by decide +kernel
  exact this ⟨a, h⟩
theorem i64_and127 (n : Int) : bits .and .i64 n 127 = n % 128 := by
  have h1 : (BitVec.ofInt 64 127).toNat = 2 ^ 7 - 1 := by decide
  have key : (BitVec.ofInt 64 n &&& BitVec.ofInt 64 127).toNat = (n % ((2 ^ 64 : Nat) : Int)).toNat % 2 ^ 7 := by
    rw [BitVec.toNat_and, BitVec.toNat_ofInt, h1, Nat.and_two_pow_sub_one_eq_mod]
  show IntKind.i64.wrap ((BitVec.ofInt 64 n &&& BitVec.ofInt 64 127).toNat : Nat) = n % 128
  rw [key, IntKind.wrap_i64]
  omega
theorem u8n (m : Nat) (h : m < 256) : ((UInt8.ofNat m).toNat : Int) = (m : Int) := by
  simp
  omega
/-- What stands before a round of the loop. -/
def UvAt (N : Nat) (pre : List UInt8) (f m : Nat) : Prop := pre ++ uvF f m = uvF 10 N ∧ m < 128 ^ (f + 1) ∧ pre.length + f = 10
theorem UvAt.next {N f m : Nat} {pre : List UInt8} (h : UvAt N pre f m) (hm : ¬ m < 128) : ∃ f', f = f' + 1 ∧ UvAt N (pre ++ [UInt8.ofNat (m % 128 + 128)]) f' (m / 128) := by
  obtain ⟨h1, h2, h3⟩ := h
  cases f with
  | zero => simp at h2; omega
  | succ f =>
    refine ⟨f, rfl, ?_, ?_, by simp; omega⟩
    · rw [← h1, uvF_high hm, List.append_assoc]
      rfl
    · rw [Nat.pow_succ] at h2
      exact Nat.div_lt_of_lt_mul (by rw [Nat.mul_comm]; exact h2)
theorem UvAt.last {N f m : Nat} {pre : List UInt8} (h : UvAt N pre f m) (hm : m < 128) : pre ++ [UInt8.ofNat m] = uvF 10 N := by
  rw [← h.1, uvF_low hm]
theorem UvAt.start {N : Nat} (h : N ≤ 1000000000000) : UvAt N [] 10 N := ⟨rfl, Nat.lt_of_le_of_lt h (by decide), rfl⟩

theorem row_snoc {E : TypeId} {B : Nat} {w : World} {v : Value} {xs : List UInt8} {y : UInt8} {z : Int} (hz : (y.toNat : Int) = z) (h : Row E B w v (xs.length + 1) ((xs.map fun x => Value.int .u8 (x.toNat : Int)) ++ [.int .u8 z])) : Row E B w v (xs ++ [y]).length ((xs ++ [y]).map fun x => Value.int .u8 (x.toNat : Int)) := by
  rw [List.length_append, List.map_append, List.map_cons, List.map_nil, hz]
  exact h
set_option maxHeartbeats 1000000 in
set_option maxRecDepth 100000 in
theorem implUv_c (v : Value) (xs : List UInt8) (n : Int) (w : World) (h : Rd RB w v xs) (hn : xs.length ≤ 1048576) :
    Calls Try.prog 148 #[v, .int .i64 n] w fun e w' => ∃ v', e = .returned v' ∧ Fresh (Own 5 FB) w w' v' (xs ++ uvI n) := by
  have CL := Lib.hid (CloneB_c v xs w h (by omega))
  clear h
  by_cases hr : 0 ≤ n ∧ n ≤ 1000000000000
  · rw [uvI_yes hr]
    obtain ⟨N, rfl⟩ := Int.eq_ofNat_of_zero_le hr.1
    rw [show ((N : Int)).toNat = N from Int.toNat_natCast N]
    have hN : N ≤ 1000000000000 := by omega
    clear hr
    go_enter Try.func148, Try.ntmps148
    go_wp2_with fail
    refine CL.out.mono ?_
    rintro e w1 ⟨v1, rfl, F1⟩
    have R1 : Row 5 w.heap.size w1 v1 xs.length (xs.map fun x => Value.int .u8 (x.toNat : Int)) := by
      obtain ⟨F, f1, f2, f3, f4⟩ := F1
      obtain ⟨k1, rfl⟩ := Own_flatB.1 f1
      exact ⟨k1, fun b hb => f3 b (by simpa using hb)⟩
    have RH := Lib.hid (And.intro R1 F1.below)
    clear F1 R1 CL
    go_wp2_with fail
    refine (implIn_t _ _ _ _ (by omega) (by omega)).mono ?_
    rintro e w' ⟨rfl, rfl⟩
    go_wp2
    go_loopw [1, 5] (fun n' o wr => ∃ (m f : Nat) (pre : List UInt8), m ≤ 1000000000000 ∧ pre.length ≤ 10 ∧ n' = .int .i64 m ∧ Hid (UvAt N pre f m) ∧ Hid (Row 5 w.heap.size wr o (xs ++ pre).length ((xs ++ pre).map fun x => Value.int .u8 (x.toNat : Int)) ∧ Below w.heap.size w wr)) (fun n' _ _ => (intOf n').toNat)
    case atStart => exact ⟨N, 10, [], hN, by simp, rfl, Lib.hid (UvAt.start hN), Lib.hid (by rw [List.append_nil]; exact RH.out)⟩
    case round =>
      obtain ⟨m, f, pre, hm, hp, rfl, HU, HH⟩ := hrel
      clear RH
      by_cases hlt : m < 128
      · have HL := Lib.hid (HU.out.last hlt)
        have hlen : (xs ++ pre).length ≤ 1048586 := by simp; omega
        have hmk : ((m : Nat) : Int) < 128 := by omega
        have HV := Lib.hid (u8n m (by omega))
        go_wp2_with (at_builtin; refine wpList_app elB rfl (.tmp 22) (.tmp 25) rfl _ (xs ++ pre).length _ rfl (HH.out.1.1.alloc _) (some ⟨wr.heap.size, 0, none⟩) 1 1 [.int .u8 (m : Int)] rfl (Src_one _ _ _) (one_single _ rfl) (by simp only [maxLen]; omega) (by omega) ?_; intro v2 w2 hown hg hat)
        have P := HH.out.1.app HH.out.2 HH.out.2.size hown hg hat
        have F := Lib.hid (Row.freshB (xs := xs ++ uvF 10 N) P.1 P.2 (by rw [← HL.out, ← List.append_assoc, List.map_append (l₁ := xs ++ pre), List.map_cons, List.map_nil, HV.out]))
        clear hown hg hat P
        go_ret
        exact ⟨_, rfl, F.out⟩
      · obtain ⟨f', rfl, hnx⟩ := HU.out.next hlt
        have hlen : (xs ++ pre).length ≤ 1048586 := by simp; omega
        have hp9 : pre.length + 1 ≤ 10 := by have := hnx.2.2; simp at this; omega
        have HNX := Lib.hid hnx
        have hb := or8 (m % 256) (by omega)
        rw [show m % 256 % 128 = m % 128 by omega] at hb
        have HBv : Hid (bits .or .u8 ((m : Int) % 256) 128 = ((m % 128 + 128 : Nat) : Int)) := Lib.hid (by rw [← hb]; simp)
        have HV := Lib.hid (u8n (m % 128 + 128) (by omega))
        clear hnx hb HU
        go_wp2_with (at_builtin; refine wpList_app elB rfl (.tmp 14) (.tmp 18) rfl _ (xs ++ pre).length _ rfl (HH.out.1.1.alloc _) (some ⟨wr.heap.size, 0, none⟩) 1 1 [.int .u8 (bits .or .u8 ((m : Int) % 256) 128)] rfl (Src_one _ _ _) (one_single _ rfl) (by simp only [maxLen]; omega) (by omega) ?_; intro v2 w2 hown hg hat)
        have P := HH.out.1.app HH.out.2 HH.out.2.size hown hg hat
        rw [HBv.out] at P
        have PH := Lib.hid P
        clear hown hg hat P
        go_wp2
        go_roundw
        case rel => exact ⟨m / 128, f', pre ++ [UInt8.ofNat (m % 128 + 128)], by omega, by simp; omega, by go_num, HNX, Lib.hid (by rw [← List.append_assoc]; exact ⟨row_snoc HV.out PH.out.1, PH.out.2⟩)⟩
        case measure => simp [intOf]; omega
  · rw [uvI_no hr, List.append_nil]
    have HRN := Lib.hid hr
    clear hr
    go_enter Try.func148, Try.ntmps148
    go_wp2_with fail
    refine CL.out.mono ?_
    rintro e w1 ⟨v1, rfl, F1⟩
    have FH := Lib.hid F1
    clear F1 CL
    go_wp2_with fail
    refine (implIn_f _ _ _ _ HRN.out).mono ?_
    rintro e w' ⟨rfl, rfl⟩
    go_wp2
    go_ret
    exact ⟨_, rfl, FH.out⟩
set_option maxHeartbeats 1000000 in
set_option maxRecDepth 100000 in
theorem specUv_c (v : Value) (xs : List UInt8) (n : Int) (w : World) (h : Rd RB w v xs) (hn : xs.length ≤ 1048576) :
    Calls Try.prog 151 #[v, .int .i64 n] w fun e w' => ∃ v', e = .returned v' ∧ Fresh (Own 5 FB) w w' v' (xs ++ uvI n) := by
  obtain ⟨A, l, c, rfl, h'⟩ := h
  obtain rfl := h'.1
  have bE := below_alloc w (.cells #[] 5)
  have SRC := Lib.hid ((RdAt_reads RB_reads h' bE).srcB)
  have R0 := Lib.hid (Row_lit (E := 5) (B := w.heap.size) w #[] (Nat.le_refl _) (by simp))
  have BE := Lib.hid bE
  clear h' bE
  by_cases hr : 0 ≤ n ∧ n ≤ 1000000000000
  · rw [uvI_yes hr]
    obtain ⟨N, rfl⟩ := Int.eq_ofNat_of_zero_le hr.1
    rw [show ((N : Int)).toNat = N from Int.toNat_natCast N]
    have hN : N ≤ 1000000000000 := by omega
    clear hr
    go_enter Try.func151, Try.ntmps151
    go_wp2_with (at_builtin; refine wpList_app elB rfl (.tmp 6) (.tmp 7) rfl _ 0 [] rfl R0.out.1 A xs.length c _ rfl SRC.out (one_mapB xs) (by simp only [maxLen]; omega) (by omega) ?_; intro v1 w1 hown hg hat; have RH := Lib.hid (R0.out.app0 BE.out (by simp) hown hg hat); clear hown hg hat)
    refine (specIn_t _ _ _ _ (by omega) (by omega)).mono ?_
    rintro e w' ⟨rfl, rfl⟩
    go_wp2
    go_loopw [1, 5] (fun n' o wr => ∃ (m f : Nat) (pre : List UInt8), m ≤ 1000000000000 ∧ pre.length ≤ 10 ∧ n' = .int .i64 m ∧ Hid (UvAt N pre f m) ∧ Hid (Row 5 w.heap.size wr o (xs ++ pre).length ((xs ++ pre).map fun x => Value.int .u8 (x.toNat : Int)) ∧ Below w.heap.size w wr)) (fun n' _ _ => (intOf n').toNat)
    case atStart => exact ⟨N, 10, [], hN, by simp, rfl, Lib.hid (UvAt.start hN), Lib.hid (by simpa using RH.out)⟩
    case round =>
      obtain ⟨m, f, pre, hm, hp, rfl, HU, HH⟩ := hrel
      clear RH
      by_cases hlt : m < 128
      · have HL := Lib.hid (HU.out.last hlt)
        have hlen : (xs ++ pre).length ≤ 1048586 := by simp; omega
        have hmk : ((m : Nat) : Int) < 128 := by omega
        have HV := Lib.hid (u8n m (by omega))
        go_wp2_with (at_builtin; refine wpList_app elB rfl (.tmp 24) (.tmp 27) rfl _ (xs ++ pre).length _ rfl (HH.out.1.1.alloc _) (some ⟨wr.heap.size, 0, none⟩) 1 1 [.int .u8 (m : Int)] rfl (Src_one _ _ _) (one_single _ rfl) (by simp only [maxLen]; omega) (by omega) ?_; intro v2 w2 hown hg hat)
        have P := HH.out.1.app HH.out.2 HH.out.2.size hown hg hat
        have F := Lib.hid (Row.freshB (xs := xs ++ uvF 10 N) P.1 P.2 (by rw [← HL.out, ← List.append_assoc, List.map_append (l₁ := xs ++ pre), List.map_cons, List.map_nil, HV.out]))
        clear hown hg hat P
        go_ret
        exact ⟨_, rfl, F.out⟩
      · obtain ⟨f', rfl, hnx⟩ := HU.out.next hlt
        have hlen : (xs ++ pre).length ≤ 1048586 := by simp; omega
        have hp9 : pre.length + 1 ≤ 10 := by have := hnx.2.2; simp at this; omega
        have HNX := Lib.hid hnx
        have hb := or64 (m % 128) (by omega)
        have HBv : Hid (bits .or .i64 (bits .and .i64 (m : Int) 127) 128 % 256 = ((m % 128 + 128 : Nat) : Int)) := Lib.hid (by rw [i64_and127, show (m : Int) % 128 = ((m % 128 : Nat) : Int) by omega, hb]; omega)
        have HV := Lib.hid (u8n (m % 128 + 128) (by omega))
        clear hnx hb HU
        go_wp2_with (at_builtin; refine wpList_app elB rfl (.tmp 15) (.tmp 20) rfl _ (xs ++ pre).length _ rfl (HH.out.1.1.alloc _) (some ⟨wr.heap.size, 0, none⟩) 1 1 [.int .u8 (bits .or .i64 (bits .and .i64 (m : Int) 127) 128 % 256)] rfl (Src_one _ _ _) (one_single _ rfl) (by simp only [maxLen]; omega) (by omega) ?_; intro v2 w2 hown hg hat)
        have P := HH.out.1.app HH.out.2 HH.out.2.size hown hg hat
        rw [HBv.out] at P
        have PH := Lib.hid P
        clear hown hg hat P
        go_wp2
        go_roundw
        case rel => exact ⟨m / 128, f', pre ++ [UInt8.ofNat (m % 128 + 128)], by omega, by simp; omega, by go_num, HNX, Lib.hid (by rw [← List.append_assoc]; exact ⟨row_snoc HV.out PH.out.1, PH.out.2⟩)⟩
        case measure => simp [intOf]; omega
  · rw [uvI_no hr, List.append_nil]
    have HRN := Lib.hid hr
    clear hr
    go_enter Try.func151, Try.ntmps151
    go_wp2_with (at_builtin; refine wpList_app elB rfl (.tmp 6) (.tmp 7) rfl _ 0 [] rfl R0.out.1 A xs.length c _ rfl SRC.out (one_mapB xs) (by simp only [maxLen]; omega) (by omega) ?_; intro v1 w1 hown hg hat; have RH := Lib.hid (R0.out.app0 BE.out (by simp) hown hg hat); clear hown hg hat)
    refine (specIn_f _ _ _ _ HRN.out).mono ?_
    rintro e w' ⟨rfl, rfl⟩
    have F := Lib.hid (Row.freshB (xs := xs) RH.out.1 RH.out.2 (by simp))
    go_wp2
    go_ret
    exact ⟨_, rfl, F.out⟩
set_option maxHeartbeats 1000000 in
set_option maxRecDepth 100000 in
theorem implEnc_c (v : Value) (xs : List Int) (w : World) (h : Rd RI w v xs) (hn : xs.length ≤ 10000) :
    Calls Try.prog 112 #[v] w fun e w' => ∃ v', e = .returned v' ∧ Fresh (Own 5 FB) w w' v' (encI xs) := by
  obtain ⟨A, l, c, rfl, h'⟩ := h
  obtain rfl := h'.1
  have H := Lib.hid h'
  have F0 := Lib.hid (show Fresh (Own 5 FB) w (w.alloc (.cells #[] 5)) (.slice (some ⟨w.heap.size, 0, none⟩) 0 0) [] from (Row_lit (E := 5) w #[] (Nat.le_refl _) (by simp)).freshB (below_alloc w _) rfl)
  clear h'
  go_enter Try.func112, Try.ntmps112
  go_wp2
  go_loopw [3, 9] (fun o i wr => ∃ k : Nat, k ≤ xs.length ∧ i = .int .i64 k ∧ Hid (Fresh (Own 5 FB) w wr o (encI (xs.take k)))) (fun _ i _ => xs.length - (intOf i).toNat)
  case atStart => exact ⟨0, Nat.zero_le _, rfl, Lib.hid F0.out⟩
  case round =>
    obtain ⟨k, hk, rfl, FH⟩ := hrel
    clear F0
    have hb := FH.out.below
    by_cases hlt : k < xs.length
    · obtain ⟨b, off, x, u, rfl, hbb, hx, hu, hr⟩ := H.out.at_ hlt
      unfold RI at hr
      subst hr
      have g1 := (hb.cell (p := ⟨b, off + k, none⟩) hbb).trans hu
      have HS := Lib.hid (show encI (xs.take (k + 1)) = encI (xs.take k) ++ uvI x by rw [take_succ_get xs k x hx, encI_snoc])
      have rd := (FH.out.iv (Own_good FB_good)).rd (R' := RB) (fun q => q.rb)
      have hel := encI_len (xs.take k)
      have htl := List.length_take_le k xs
      have UV := Lib.hid (implUv_c _ (encI (xs.take k)) x wr rd (by omega))
      have hk0 : (0 : Int) ≤ (k : Int) := by omega
      have hkn : (k : Int) < (xs.length : Int) := by omega
      have HB := Lib.hid hb
      clear hx hu rd hb
      go_wp2_with fail
      refine UV.out.mono ?_
      rintro e w2 ⟨v2, rfl, F2⟩
      have G := Lib.hid (show Fresh (Own 5 FB) w w2 v2 (encI (xs.take (k + 1))) from by rw [HS.out]; exact F2.pre HB.out)
      clear F2
      go_wp2
      go_roundw
      case rel => exact ⟨k + 1, by omega, by go_num, G⟩
      case measure => simp [intOf]; omega
    · obtain rfl : xs.length = k := by omega
      have HT : Hid (xs.take xs.length = xs) := Lib.hid List.take_length
      rw [HT.out] at FH
      clear hb
      go_wp2
      go_ret
      exact ⟨_, rfl, FH.out⟩
set_option maxHeartbeats 1000000 in
set_option maxRecDepth 100000 in
theorem specEnc_c (v : Value) (xs : List Int) (w : World) (h : Rd RI w v xs) (hn : xs.length ≤ 10000) :
    Calls Try.prog 121 #[v] w fun e w' => ∃ v', e = .returned v' ∧ Fresh (Own 5 FB) w w' v' (encI xs) := by
  obtain ⟨A, l, c, rfl, h'⟩ := h
  obtain rfl := h'.1
  have H := Lib.hid h'
  have F0 := Lib.hid (show Fresh (Own 5 FB) w (w.alloc (.cells #[] 5)) (.slice (some ⟨w.heap.size, 0, none⟩) 0 0) [] from (Row_lit (E := 5) w #[] (Nat.le_refl _) (by simp)).freshB (below_alloc w _) rfl)
  clear h'
  go_enter Try.func121, Try.ntmps121
  go_wp2
  go_loopw [3, 4] (fun o i wr => ∃ k : Nat, k ≤ xs.length ∧ i = .int .i64 k ∧ Hid (Fresh (Own 5 FB) w wr o (encI (xs.take k)))) (fun _ i _ => xs.length - (intOf i).toNat)
  case atStart => exact ⟨0, Nat.zero_le _, rfl, Lib.hid F0.out⟩
  case round =>
    obtain ⟨k, hk, rfl, FH⟩ := hrel
    clear F0
    have hb := FH.out.below
    by_cases hlt : k < xs.length
    · obtain ⟨b, off, x, u, rfl, hbb, hx, hu, hr⟩ := H.out.at_ hlt
      unfold RI at hr
      subst hr
      have g1 := (hb.cell (p := ⟨b, off + k, none⟩) hbb).trans hu
      have HS := Lib.hid (show encI (xs.take (k + 1)) = encI (xs.take k) ++ uvI x by rw [take_succ_get xs k x hx, encI_snoc])
      have rd := (FH.out.iv (Own_good FB_good)).rd (R' := RB) (fun q => q.rb)
      have hel := encI_len (xs.take k)
      have htl := List.length_take_le k xs
      have UV := Lib.hid (specUv_c _ (encI (xs.take k)) x wr rd (by omega))
      have hk0 : (0 : Int) ≤ (k : Int) := by omega
      have hkn : (k : Int) < (xs.length : Int) := by omega
      have HB := Lib.hid hb
      clear hx hu rd hb
      go_wp2_with fail
      refine UV.out.mono ?_
      rintro e w2 ⟨v2, rfl, F2⟩
      have G := Lib.hid (show Fresh (Own 5 FB) w w2 v2 (encI (xs.take (k + 1))) from by rw [HS.out]; exact F2.pre HB.out)
      clear F2
      go_wp2
      go_roundw
      case rel => exact ⟨k + 1, by omega, by go_num, G⟩
      case measure => simp [intOf]; omega
    · obtain rfl : xs.length = k := by omega
      have HT : Hid (xs.take xs.length = xs) := Lib.hid List.take_length
      rw [HT.out] at FH
      clear hb
      go_wp2
      go_ret
      exact ⟨_, rfl, FH.out⟩
end Go.Proofs.Ytceogegjghmonaa
