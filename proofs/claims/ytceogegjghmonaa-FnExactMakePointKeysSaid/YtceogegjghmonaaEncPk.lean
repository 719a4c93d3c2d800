/- EncodePointKey of both sides. -/
import Derived.Test.YtceogegjghmonaaUv
import Derived.Test.YtceogegjghmonaaPkOk
import Derived.Test.YtceogegjghmonaaBoxes
import Derived.IntWalk
import Derived.Deep.RegionHeld3
namespace Go.Proofs.Ytceogegjghmonaa
set_option linter.unusedVariables false
open Go.RowKit

def pkInts (r b : Int) (xs : List Corr) : List Int := [r, b, (xs.length : Nat)] ++ xs.flatMap fun x => [x.1, x.2.1, x.2.2]
def encPk (r b : Int) (xs : List Corr) : List UInt8 := if pkOk r b xs then encI (pkInts r b xs) else []
theorem pkInts_succ (r b : Int) (n : Nat) (xs : List Corr) (k : Nat) (x : Corr) (h : xs[k]? = some x) : [r, b, (n : Int)] ++ (xs.take (k + 1)).flatMap (fun x => [x.1, x.2.1, x.2.2]) = ([r, b, (n : Int)] ++ (xs.take k).flatMap fun x => [x.1, x.2.1, x.2.2]) ++ [x.1, x.2.1, x.2.2] := by
  rw [take_succ_get xs k x h, List.flatMap_append, List.append_assoc]
  rfl
theorem pkInts_len (xs : List Corr) : (xs.flatMap fun x => [x.1, x.2.1, x.2.2]).length = 3 * xs.length := by
  induction xs with
  | nil => rfl
  | cons x xs ih => simp [List.flatMap_cons, ih]; omega
theorem Src_three (w : World) (a b c : Value) (E : TypeId) : Src (w.alloc (.cells #[a, b, c] E)) (some ⟨w.heap.size, 0, none⟩) 3 [a, b, c] :=
  ⟨rfl, fun _ => ⟨w.heap.size, 0, rfl, fun j v hv => by
    rw [World.cell?_alloc_at _ _ _ _ rfl, Nat.zero_add]
    match j with
    | 0 => simpa using hv
    | 1 => simpa using hv
    | 2 => simpa using hv
    | j + 3 => simp at hv⟩⟩
theorem encPk_len (r b : Int) (xs : List Corr) : (encPk r b xs).length ≤ 264 := by
  unfold encPk
  split
  · rename_i h
    have h1 : xs.length ≤ 6 := by unfold pkOk at h; simp at h; omega
    have h2 := encI_len (pkInts r b xs)
    have h3 : (pkInts r b xs).length = 3 + 3 * xs.length := by unfold pkInts; rw [List.length_append, pkInts_len]; rfl
    omega
  · simp
set_option maxHeartbeats 1000000 in
set_option maxRecDepth 100000 in
theorem implEncPk_c (r b : Int) (v : Value) (xs : List Corr) (w : World) (h : RdC w v xs) :
    Calls Try.prog 50 #[.agg #[.int .i64 r, .int .i64 b, v]] w fun e w' => ∃ v', e = .returned v' ∧ Fresh (Own 5 FB) w w' v' (encPk r b xs) := by
  obtain ⟨A, n, c, rfl, h'⟩ := h
  have hcm := h'.2.2.1
  have hnc := h'.2.1
  unfold maxLen at hcm
  obtain rfl := h'.1
  have h : RdC w (.slice A xs.length c) xs := ⟨_, _, _, rfl, h'⟩
  clear h'
  have T := below_alloc w (.cells #[.int .i64 r, .int .i64 b, .slice A xs.length c] 63)
  have R1 := RdC_reads _ _ _ _ h T
  have BK : Hid (Box (w.alloc (.cells #[.int .i64 r, .int .i64 b, .slice A xs.length c] 63)) w.heap.size 63 #[.int .i64 r, .int .i64 b, .slice A xs.length c]) := Lib.hid (Box.new w _ _)
  have VP : Hid (∀ o, pkOk r b xs = o → ∀ W v, RdC W v xs → Calls Try.prog 46 #[.agg #[.int .i64 r, .int .i64 b, v]] W fun e w' => e = .returned (.bool o) ∧ Below W.heap.size W w') := Lib.hid (fun o ho W v h => by rw [← ho]; exact implIsValidPointKey_c r b v xs W h)
  have HR := Lib.hid h
  clear h
  cases hpk : pkOk r b xs with
  | false =>
    have HE := Lib.hid (show encPk r b xs = [] by unfold encPk; rw [hpk]; rfl)
    rw [HE.out]
    have OP := Lib.hid hpk
    clear hpk HE
    go_enter Try.func50, Try.ntmps50
    go_wp2_with fail
    refine (VP.out _ OP.out _ _ R1).mono ?_
    rintro e w1 ⟨rfl, b1⟩
    have T1 := T.trans (b1.mono T.size)
    have FN : Hid (Fresh (Own 5 FB) w w1 (.slice none 0 0) ([] : List UInt8)) := Lib.hid (fresh_nilB w w1 T1)
    go_wp2
    go_ret
    exact ⟨_, rfl, FN.out⟩
  | true =>
    have hl6 : xs.length ≤ 6 := by unfold pkOk at hpk; simp at hpk; omega
    have HE := Lib.hid (show encPk r b xs = encI (pkInts r b xs) by unfold encPk; rw [hpk]; rfl)
    rw [HE.out]
    have OP := Lib.hid hpk
    clear hpk HE
    go_enter Try.func50, Try.ntmps50
    go_wp2_with fail
    refine (VP.out _ OP.out _ _ R1).mono ?_
    rintro e w1 ⟨rfl, b1⟩
    have T1 := T.trans (b1.mono T.size)
    have B1 := Lib.hid (BK.out.below b1 BK.out.lt)
    have q0 : w1.cell? ⟨w.heap.size, 0, none⟩ = some (.int .i64 r) := B1.out.cell 0
    have q1 : w1.cell? ⟨w.heap.size, 1, none⟩ = some (.int .i64 b) := B1.out.cell 1
    have q2 : w1.cell? ⟨w.heap.size, 2, none⟩ = some (.slice A xs.length c) := B1.out.cell 2
    have hs1 := B1.out.lt
    have R0 := Lib.hid (Row_lit (E := 3) (B := w.heap.size + 1) w1 #[.int .i64 r, .int .i64 b, .int .i64 (xs.length : Nat)] (by omega) (by simp [maxLen]))
    have B2 := Lib.hid (B1.out.alloc (.cells #[.int .i64 r, .int .i64 b, .int .i64 (xs.length : Nat)] 3))
    have q3 : (w1.alloc (.cells #[.int .i64 r, .int .i64 b, .int .i64 (xs.length : Nat)] 3)).cell? ⟨w.heap.size, 2, none⟩ = some (.slice A xs.length c) := B2.out.cell 2
    have T2 := T1.alloc T1.size (.cells #[.int .i64 r, .int .i64 b, .int .i64 (xs.length : Nat)] 3)
    clear b1 T BK R1
    go_wp2
    go_loopw [3, 20] (fun o i wr => ∃ k : Nat, k ≤ xs.length ∧ i = .int .i64 k ∧ Hid (Row 3 (w.heap.size + 1) wr o (3 + 3 * k) (([r, b, (xs.length : Int)] ++ (xs.take k).flatMap fun x => [x.1, x.2.1, x.2.2]).map fun x => Value.int .i64 x) ∧ Below w.heap.size w wr ∧ w.heap.size + 1 ≤ wr.heap.size)) (fun _ i _ => xs.length - (intOf i).toNat)
    case atStart => exact ⟨0, Nat.zero_le _, rfl, Lib.hid ⟨R0.out, T2, by simp; omega⟩⟩
    case round =>
      obtain ⟨k, hk, rfl, HH⟩ := hrel
      clear q0 q1 q2 q3
      by_cases hlt : k < xs.length
      · obtain ⟨b0, off, x, rfl, hbb, hx, u0, u1, u2⟩ := HR.out.at_ hlt
        obtain ⟨x0, x1, x2⟩ := x
        have g0 := (HH.out.2.1.cell (p := ⟨b0, off + k * 3, none⟩) hbb).trans u0
        have g1 := (HH.out.2.1.cell (p := ⟨b0, off + k * 3 + 1, none⟩) hbb).trans u1
        have g2 := (HH.out.2.1.cell (p := ⟨b0, off + k * 3 + 2, none⟩) hbb).trans u2
        have HX := Lib.hid (pkInts_succ r b xs.length xs k _ hx)
        have hbb2 := Nat.lt_of_lt_of_le hbb HH.out.2.1.size
        have bA := below_alloc wr (.cells #[.int .i64 x0, .int .i64 x1, .int .i64 x2] 116)
        have RA := Lib.hid (HH.out.1.below bA)
        have TA := Lib.hid (HH.out.2.1.trans (bA.mono HH.out.2.1.size))
        have KA := Lib.hid (show Below (w.heap.size + 1) wr (wr.alloc (.cells #[.int .i64 x0, .int .i64 x1, .int .i64 x2] 116)) from bA.mono HH.out.2.2)
        have SRC := Lib.hid (show Src ((wr.alloc (.cells #[.int .i64 x0, .int .i64 x1, .int .i64 x2] 116)).alloc (.cells #[.int .i64 x0, .int .i64 x1, .int .i64 x2] 3)) (some ⟨wr.heap.size + 1, 0, none⟩) 3 [.int .i64 x0, .int .i64 x1, .int .i64 x2] from by
          have := Src_three (wr.alloc (.cells #[.int .i64 x0, .int .i64 x1, .int .i64 x2] 116)) (.int .i64 x0) (.int .i64 x1) (.int .i64 x2) 3
          rw [World.size_alloc] at this
          exact this)
        have hsr := HH.out.2.2
        clear u0 u1 u2 hx bA
        go_wp2_with (at_builtin; refine wpList_app elI rfl (.tmp 24) (.tmp 31) rfl _ (3 + 3 * k) _ rfl (RA.out.1.alloc _) (some ⟨wr.heap.size + 1, 0, none⟩) 3 3 [.int .i64 x0, .int .i64 x1, .int .i64 x2] rfl SRC.out (by intro u hu; simp at hu; rcases hu with rfl | rfl | rfl <;> rfl) (by simp only [maxLen]; omega) (by omega) ?_; intro v2 w2 hown hg hat)
        have P := RA.out.app KA.out (by simp; omega) hown hg hat
        have hsz := P.2.size
        have HF := Lib.hid (show Row 3 (w.heap.size + 1) w2 v2 (3 + 3 * (k + 1)) (([r, b, (xs.length : Int)] ++ (xs.take (k + 1)).flatMap fun x => [x.1, x.2.1, x.2.2]).map fun x => Value.int .i64 x) ∧ Below w.heap.size w w2 ∧ w.heap.size + 1 ≤ w2.heap.size from ⟨by
          rw [HX.out, List.map_append, show 3 + 3 * (k + 1) = 3 + 3 * k + 3 by omega]
          exact P.1, HH.out.2.1.trans (P.2.mono (by omega)), by omega⟩)
        clear hown hg hat P
        go_wp2
        go_roundw
        case rel => exact ⟨k + 1, by omega, by go_num, HF⟩
        case measure => simp [intOf]; omega
      · obtain rfl : xs.length = k := by omega
        have HT : Hid (xs.take xs.length = xs) := Lib.hid List.take_length
        have hrow := HH.out.1.1
        rw [HT.out] at hrow
        have rl := rd_rowI (xs := pkInts r b xs) hrow rfl
        have hpl : (pkInts r b xs).length ≤ 10000 := by unfold pkInts; rw [List.length_append, pkInts_len]; simp; omega
        have EN := Lib.hid (implEnc_c _ (pkInts r b xs) wr rl hpl)
        have TR := Lib.hid HH.out.2.1
        clear hrow rl hpl HH
        go_wp2_with fail
        refine EN.out.mono ?_
        rintro e w3 ⟨v3, rfl, F3⟩
        have G := Lib.hid (F3.pre TR.out)
        clear F3
        go_wp2
        go_ret
        exact ⟨_, rfl, G.out⟩
set_option maxHeartbeats 1000000 in
set_option maxRecDepth 100000 in
theorem specEncPk_c (r b : Int) (v : Value) (xs : List Corr) (w : World) (h : RdC w v xs) :
    Calls Try.prog 57 #[.agg #[.int .i64 r, .int .i64 b, v]] w fun e w' => ∃ v', e = .returned v' ∧ Fresh (Own 5 FB) w w' v' (encPk r b xs) := by
  obtain ⟨A, n, c, rfl, h'⟩ := h
  have hcm := h'.2.2.1
  have hnc := h'.2.1
  unfold maxLen at hcm
  obtain rfl := h'.1
  have h : RdC w (.slice A xs.length c) xs := ⟨_, _, _, rfl, h'⟩
  clear h'
  have T := below_alloc w (.cells #[.int .i64 r, .int .i64 b, .slice A xs.length c] 63)
  have R1 := RdC_reads _ _ _ _ h T
  have BK : Hid (Box (w.alloc (.cells #[.int .i64 r, .int .i64 b, .slice A xs.length c] 63)) w.heap.size 63 #[.int .i64 r, .int .i64 b, .slice A xs.length c]) := Lib.hid (Box.new w _ _)
  have VP : Hid (∀ o, pkOk r b xs = o → ∀ W v, RdC W v xs → Calls Try.prog 120 #[.agg #[.int .i64 r, .int .i64 b, v]] W fun e w' => e = .returned (.bool o) ∧ Below W.heap.size W w') := Lib.hid (fun o ho W v h => by rw [← ho]; exact specIsValidPointKey_c r b v xs W h)
  have HR := Lib.hid h
  clear h
  cases hpk : pkOk r b xs with
  | false =>
    have HE := Lib.hid (show encPk r b xs = [] by unfold encPk; rw [hpk]; rfl)
    rw [HE.out]
    have OP := Lib.hid hpk
    clear hpk HE
    go_enter Try.func57, Try.ntmps57
    go_wp2_with fail
    refine (VP.out _ OP.out _ _ R1).mono ?_
    rintro e w1 ⟨rfl, b1⟩
    have T1 := T.trans (b1.mono T.size)
    have FN : Hid (Fresh (Own 5 FB) w (w1.alloc (.cells #[] 5)) (.slice (some ⟨w1.heap.size, 0, none⟩) 0 0) ([] : List UInt8)) := Lib.hid (Fresh.pre T1 ((Row_lit (E := 5) w1 #[] (Nat.le_refl _) (by simp)).freshB (below_alloc w1 _) rfl))
    go_wp2
    go_ret
    exact ⟨_, rfl, FN.out⟩
  | true =>
    have hl6 : xs.length ≤ 6 := by unfold pkOk at hpk; simp at hpk; omega
    have HE := Lib.hid (show encPk r b xs = encI (pkInts r b xs) by unfold encPk; rw [hpk]; rfl)
    rw [HE.out]
    have OP := Lib.hid hpk
    clear hpk HE
    go_enter Try.func57, Try.ntmps57
    go_wp2_with fail
    refine (VP.out _ OP.out _ _ R1).mono ?_
    rintro e w1 ⟨rfl, b1⟩
    have T1 := T.trans (b1.mono T.size)
    have B1 := Lib.hid (BK.out.below b1 BK.out.lt)
    have q0 : w1.cell? ⟨w.heap.size, 0, none⟩ = some (.int .i64 r) := B1.out.cell 0
    have q1 : w1.cell? ⟨w.heap.size, 1, none⟩ = some (.int .i64 b) := B1.out.cell 1
    have q2 : w1.cell? ⟨w.heap.size, 2, none⟩ = some (.slice A xs.length c) := B1.out.cell 2
    have hs1 := B1.out.lt
    have R0 := Lib.hid (Row_lit (E := 3) (B := w.heap.size + 1) w1 #[.int .i64 r, .int .i64 b, .int .i64 (xs.length : Nat)] (by omega) (by simp [maxLen]))
    have B2 := Lib.hid (B1.out.alloc (.cells #[.int .i64 r, .int .i64 b, .int .i64 (xs.length : Nat)] 3))
    have T2 := T1.alloc T1.size (.cells #[.int .i64 r, .int .i64 b, .int .i64 (xs.length : Nat)] 3)
    clear b1 T BK R1
    go_wp2
    go_loopw [3, 4] (fun o i wr => ∃ k : Nat, k ≤ xs.length ∧ i = .int .i64 k ∧ Hid (Row 3 (w.heap.size + 1) wr o (3 + 3 * k) (([r, b, (xs.length : Int)] ++ (xs.take k).flatMap fun x => [x.1, x.2.1, x.2.2]).map fun x => Value.int .i64 x) ∧ Below w.heap.size w wr ∧ Box wr w.heap.size 63 #[.int .i64 r, .int .i64 b, .slice A xs.length c])) (fun _ i _ => xs.length - (intOf i).toNat)
    case atStart => exact ⟨0, Nat.zero_le _, rfl, Lib.hid ⟨R0.out, T2, B2.out⟩⟩
    case round =>
      obtain ⟨k, hk, rfl, HH⟩ := hrel
      clear q0 q1 q2
      have hsr := HH.out.2.2.lt
      have c2 : wr.cell? ⟨w.heap.size, 2, none⟩ = some (.slice A xs.length c) := HH.out.2.2.cell 2
      by_cases hlt : k < xs.length
      · obtain ⟨b0, off, x, rfl, hbb, hx, u0, u1, u2⟩ := HR.out.at_ hlt
        obtain ⟨x0, x1, x2⟩ := x
        have g0 : wr.drew.cell? ⟨b0, off + k * 3, none⟩ = some (.int .i64 x0) := (HH.out.2.1.cell (p := ⟨b0, off + k * 3, none⟩) hbb).trans u0
        have g1 : wr.drew.cell? ⟨b0, off + k * 3 + 1, none⟩ = some (.int .i64 x1) := (HH.out.2.1.cell (p := ⟨b0, off + k * 3 + 1, none⟩) hbb).trans u1
        have g2 : wr.drew.cell? ⟨b0, off + k * 3 + 2, none⟩ = some (.int .i64 x2) := (HH.out.2.1.cell (p := ⟨b0, off + k * 3 + 2, none⟩) hbb).trans u2
        have HX := Lib.hid (pkInts_succ r b xs.length xs k _ hx)
        have hbb2 := Nat.lt_of_lt_of_le hbb HH.out.2.1.size
        have RA := Lib.hid (show Row 3 (w.heap.size + 1) wr.drew u3 (3 + 3 * k) (([r, b, (xs.length : Int)] ++ (xs.take k).flatMap fun x => [x.1, x.2.1, x.2.2]).map fun x => Value.int .i64 x) from HH.out.1.below (Below.refl _ _).drew)
        obtain ⟨A3, l3, c3, rfl⟩ := own_shape RA.out.1
        have hb3 := RA.out.2
        have c2d : wr.drew.cell? ⟨w.heap.size, 2, none⟩ = some (.slice (some ⟨b0, off, none⟩) xs.length c) := c2
        have hk0 : (0 : Int) ≤ (k : Int) := by omega
        have hkn : (k : Int) < (xs.length : Int) := by omega
        have HOWN : (wr.drew.alloc (.cells #[.int .i64 x0, .int .i64 x1, .int .i64 x2] 3)).ownsRow 0 3 1 (.slice A3 l3 c3) (3 + 3 * k) (([r, b, (xs.length : Int)] ++ (xs.take k).flatMap fun x => [x.1, x.2.1, x.2.2]).map fun x => Value.int .i64 x) := RA.out.1.alloc _
        have HSRC : Src (wr.drew.alloc (.cells #[.int .i64 x0, .int .i64 x1, .int .i64 x2] 3)) (some ⟨wr.heap.size, 0, none⟩) 3 [.int .i64 x0, .int .i64 x1, .int .i64 x2] := Src_three wr.drew _ _ _ _
        have kS : wr.drew.cell? ⟨w.heap.size, 2, none⟩ = some (.slice (some ⟨b0, off, none⟩) xs.length c) ∧ wr.drew.cell? ⟨b0, off + k * 3, none⟩ = some (.int .i64 x0) ∧ wr.drew.cell? ⟨b0, off + k * 3 + 1, none⟩ = some (.int .i64 x1) ∧ wr.drew.cell? ⟨b0, off + k * 3 + 2, none⟩ = some (.int .i64 x2) := ⟨c2d, g0, g1, g2⟩
        have bA := below_alloc wr.drew (.cells #[.int .i64 x0, .int .i64 x1, .int .i64 x2] 3)
        have kA : (wr.drew.alloc (.cells #[.int .i64 x0, .int .i64 x1, .int .i64 x2] 3)).cell? ⟨w.heap.size, 2, none⟩ = some (.slice (some ⟨b0, off, none⟩) xs.length c) ∧ (wr.drew.alloc (.cells #[.int .i64 x0, .int .i64 x1, .int .i64 x2] 3)).cell? ⟨b0, off + k * 3, none⟩ = some (.int .i64 x0) ∧ (wr.drew.alloc (.cells #[.int .i64 x0, .int .i64 x1, .int .i64 x2] 3)).cell? ⟨b0, off + k * 3 + 1, none⟩ = some (.int .i64 x1) ∧ (wr.drew.alloc (.cells #[.int .i64 x0, .int .i64 x1, .int .i64 x2] 3)).cell? ⟨b0, off + k * 3 + 2, none⟩ = some (.int .i64 x2) := ⟨(bA.cell (p := ⟨w.heap.size, 2, none⟩) hsr).trans c2d, (bA.cell (p := ⟨b0, off + k * 3, none⟩) hbb2).trans g0, (bA.cell (p := ⟨b0, off + k * 3 + 1, none⟩) hbb2).trans g1, (bA.cell (p := ⟨b0, off + k * 3 + 2, none⟩) hbb2).trans g2⟩
        clear u0 u1 u2 hx
        go_wp2_with fail
        go_region_held3 (fun w' => w'.cell? ⟨w.heap.size, 2, none⟩ = some (.slice (some ⟨b0, off, none⟩) xs.length c) ∧ w'.cell? ⟨b0, off + k * 3, none⟩ = some (.int .i64 x0) ∧ w'.cell? ⟨b0, off + k * 3 + 1, none⟩ = some (.int .i64 x1) ∧ w'.cell? ⟨b0, off + k * 3 + 2, none⟩ = some (.int .i64 x2))
          (first | (exact kS) | (exact kA) | (exact kE) | go_keep)
          ((refine step_app elI (by rfl) _ _ (by rfl) (.slice A3 l3 c3) (3 + 3 * k) _ (by rfl) HOWN (some ⟨wr.heap.size, 0, none⟩) 3 3 [.int .i64 x0, .int .i64 x1, .int .i64 x2] (by rfl) HSRC (by intro u hu; simp at hu; rcases hu with rfl | rfl | rfl <;> rfl) (by simp only [maxLen]; omega) (by omega) ?_; intro v2 w2 hown hg hat; have P := HH.out.1.app (a := wr) (Below.refl _ _) (by omega) hown (grown_drew hg) hat; have kE : w2.cell? ⟨w.heap.size, 2, none⟩ = some (.slice (some ⟨b0, off, none⟩) xs.length c) ∧ w2.cell? ⟨b0, off + k * 3, none⟩ = some (.int .i64 x0) ∧ w2.cell? ⟨b0, off + k * 3 + 1, none⟩ = some (.int .i64 x1) ∧ w2.cell? ⟨b0, off + k * 3 + 2, none⟩ = some (.int .i64 x2) := ⟨(P.2.cell (p := ⟨w.heap.size, 2, none⟩) (Nat.lt_succ_self _)).trans c2, (P.2.cell (p := ⟨b0, off + k * 3, none⟩) (Nat.lt_succ_of_lt hbb)).trans g0, (P.2.cell (p := ⟨b0, off + k * 3 + 1, none⟩) (Nat.lt_succ_of_lt hbb)).trans g1, (P.2.cell (p := ⟨b0, off + k * 3 + 2, none⟩) (Nat.lt_succ_of_lt hbb)).trans g2⟩; clear hown hg hat))
        all_goals
          have HF := Lib.hid (show Row 3 (w.heap.size + 1) w2 v2 (3 + 3 * (k + 1)) (([r, b, (xs.length : Int)] ++ (xs.take (k + 1)).flatMap fun x => [x.1, x.2.1, x.2.2]).map fun x => Value.int .i64 x) ∧ Below w.heap.size w w2 ∧ Box w2 w.heap.size 63 #[.int .i64 r, .int .i64 b, .slice (some ⟨b0, off, none⟩) xs.length c] from ⟨by
            rw [HX.out, List.map_append, show 3 + 3 * (k + 1) = 3 + 3 * k + 3 by omega]
            exact P.1, HH.out.2.1.trans (P.2.mono (by omega)), HH.out.2.2.below P.2 (Nat.lt_succ_self _)⟩)
          clear P kE
          go_wp2
          go_roundw
          case rel => exact ⟨k + 1, by omega, by go_num, HF⟩
          case measure => simp [intOf]; omega
      · obtain rfl : xs.length = k := by omega
        have HT : Hid (xs.take xs.length = xs) := Lib.hid List.take_length
        have hrow := HH.out.1.1
        rw [HT.out] at hrow
        have rl := rd_rowI (xs := pkInts r b xs) hrow rfl
        have hpl : (pkInts r b xs).length ≤ 10000 := by unfold pkInts; rw [List.length_append, pkInts_len]; simp; omega
        have EN := Lib.hid (specEnc_c _ (pkInts r b xs) wr rl hpl)
        have TR := Lib.hid HH.out.2.1
        clear hrow rl hpl HH
        go_wp2_with fail
        refine EN.out.mono ?_
        rintro e w3 ⟨v3, rfl, F3⟩
        have G := Lib.hid (F3.pre TR.out)
        clear F3
        go_wp2
        go_ret
        exact ⟨_, rfl, G.out⟩
end Go.Proofs.Ytceogegjghmonaa
