/- ShareBytes of both sides. -/
import Derived.Test.YtceogegjghmonaaMq
import Derived.Test.YtceogegjghmonaaStream
import Derived.Test.YtceogegjghmonaaXor
namespace Go.Proofs.Ytceogegjghmonaa
set_option linter.unusedVariables false
open Go.RowKit

def sbOk (xs : List UInt8) (seeds : List Int) : Bool := decide (1 ≤ seeds.length ∧ seeds.length ≤ 3) && decide (xs.length ≤ 400)
def strs (n : Nat) (seeds : List Int) : List (List UInt8) := seeds.map (fun s => streamI s (n : Int))
def foldX (x : List UInt8) (ls : List (List UInt8)) : List UInt8 := ls.foldl xorB x
def sb (xs : List UInt8) (seeds : List Int) : List (List UInt8) := if sbOk xs seeds then strs xs.length seeds ++ [foldX xs (strs xs.length seeds)] else []
theorem strs_snoc (n : Nat) (l : List Int) (s : Int) : strs n (l ++ [s]) = strs n l ++ [streamI s n] := by simp [strs]
theorem foldX_snoc (x : List UInt8) (ls : List (List UInt8)) (y : List UInt8) : foldX x (ls ++ [y]) = xorB (foldX x ls) y := by simp [foldX]
theorem foldX_len (x : List UInt8) (ls : List (List UInt8)) (h : x.length ≤ 400) (hl : ∀ y ∈ ls, y.length ≤ 400) : (foldX x ls).length ≤ 400 := by
  induction ls generalizing x with
  | nil => simpa [foldX] using h
  | cons y ls ih =>
    have e : foldX x (y :: ls) = foldX (xorB x y) ls := rfl
    rw [e]
    refine ih _ ?_ (fun z hz => hl z (by simp [hz]))
    rw [xorB_len]
    have := hl y (by simp)
    omega
theorem strs_le (n : Nat) (l : List Int) : ∀ y ∈ strs n l, y.length ≤ 400 := by
  intro y hy
  simp only [strs, List.mem_map] at hy
  obtain ⟨s, _, rfl⟩ := hy
  exact streamI_len _ _
theorem strs_sum (n : Nat) (l : List Int) : sumL (strs n l) ≤ 400 * l.length := by
  induction l with
  | nil => simp [strs, sumL]
  | cons s l ih =>
    have := streamI_len s (n : Int)
    simp [strs, sumL] at *
    omega
theorem sb_sum (xs : List UInt8) (seeds : List Int) : sumL (sb xs seeds) ≤ 1600 := by
  unfold sb
  split
  · rename_i h
    unfold sbOk at h
    rw [Bool.and_eq_true] at h
    have h1 := of_decide_eq_true h.1
    have h2 := of_decide_eq_true h.2
    have h3 := strs_sum xs.length seeds
    have h4 := foldX_len xs (strs xs.length seeds) h2 (strs_le _ _)
    rw [sumL_append]
    simp [sumL] at *
    omega
  · simp [sumL]
theorem sb_len (xs : List UInt8) (seeds : List Int) : (sb xs seeds).length ≤ 4 := by
  unfold sb
  split
  · rename_i h
    unfold sbOk at h
    rw [Bool.and_eq_true] at h
    have h1 := of_decide_eq_true h.1
    simp [strs]
    omega
  · simp

/-- A row, and a value beside it that is read: another's at first, the row's own companion once the row is not empty. -/
def PairL (w0 w : World) (vo : Value) (n : Nat) (ls : List (List UInt8)) (vl : Value) (x : List UInt8) : Prop :=
  NRow 22 (Own 5 FB) w0.heap.size w vo n ls [] ∧ (0 < n → Pair 22 (Own 5 FB) w0.heap.size w vo n ls vl x) ∧
  ∀ w3, Below w0.heap.size w0 w3 → (∀ b, b < w.heap.size → some b ≠ vo.ownBlock → w3.heap[b]? = w.heap[b]?) → Rd RB w3 vl x
theorem PairL.of {w0 w : World} {vo vl : Value} {n : Nat} {ls : List (List UInt8)} {x : List UInt8} (h : Pair 22 (Own 5 FB) w0.heap.size w vo n ls vl x) : PairL w0 w vo n ls vl x := by
  refine ⟨h.nrow, fun _ => h, fun w3 _ hk => ?_⟩
  obtain ⟨cells, F, Fl, h1, h2, h3, h4, h5⟩ := h
  have hR := Own_good (E := 5) FB_good
  refine Own.rd (hR.stab h3 (fun b hb => hk b (hR.lt h3 b hb) (fun e => ?_))) (fun q => q.rb)
  exact (List.nodup_append.1 h4).2.2 b (by rw [← e]; simp) b (List.mem_append_right _ hb) rfl
theorem PairL.start {w0 w : World} {vo vl : Value} {x : List UInt8} (h : NRow 22 (Own 5 FB) w0.heap.size w vo 0 [] []) (hx : Rd RB w0 vl x) : PairL w0 w vo 0 [] vl x :=
  ⟨h, fun q => absurd q (Nat.lt_irrefl 0), fun _ hb _ => Rd_reads RB_reads _ _ _ _ hx hb⟩

theorem fresh_app_rd {wr w1 w3 : World} {o : Obj} {vo v : Value} {n : Nat} {x : List UInt8} {cells : List Value}
    (k1 : wr.ownsRow 0 22 1 vo n cells) (hv : Fresh (Own 5 FB) wr w1 v x) (hg : (w1.alloc o).grownBy w3 vo.ownBlock) : Rd RB w3 v x := by
  obtain ⟨Fv, f1, _, f3, f4⟩ := hv
  have hR := Own_good (E := 5) FB_good
  refine Own.rd (hR.stab f1 (fun b hb => ?_)) (fun q => q.rb)
  have hlt := hR.lt f1 b hb
  have hge := f3 b hb
  have hne : some b ≠ vo.ownBlock := fun e => by have := (k1.lt b e.symm).2; omega
  rw [hg.block b (by simp; omega) hne, Below.heap_alloc w1 o b hlt]
set_option maxHeartbeats 4000000 in
set_option maxRecDepth 100000 in
theorem implSb_c (v v' : Value) (xs : List UInt8) (seeds : List Int) (w : World) (h : Rd RB w v xs) (h' : Rd RI w v' seeds) (hns : seeds.length ≤ 1048576) (hnx : xs.length ≤ 1048576) :
    Calls Try.prog 25 #[v, v'] w fun e w' => ∃ v', e = .returned v' ∧ Fresh OBB w w' v' (sb xs seeds) := by
  obtain ⟨Ax, nx, cx, rfl, hx'⟩ := h
  obtain rfl := hx'.1
  obtain ⟨A, n, c, rfl, h'⟩ := h'
  obtain rfl := h'.1
  have RX : Hid (Rd RB w (.slice Ax xs.length cx) xs) := Lib.hid ⟨_, _, _, rfl, hx'⟩
  have hcm := Nat.le_trans h'.2.1 h'.2.2.1
  have hcx := Nat.le_trans hx'.2.1 hx'.2.2.1
  unfold maxLen at hcm hcx
  have H := Lib.hid h'
  have FE := Lib.hid (show Fresh OBB w (w.alloc (.cells #[] 22)) (.slice (some ⟨w.heap.size, 0, none⟩) 0 0) [] from (NRow_lit (B := w.heap.size) w #[] (Nat.le_refl _) (by simp)).fresh_ (below_alloc w _) (Nat.le_refl _))
  have bE := below_alloc w (.cells #[] 22)
  have NE := Lib.hid (show NRow 22 (Own 5 FB) w.heap.size (w.alloc (.cells #[] 22)) (.slice (some ⟨w.heap.size, 0, none⟩) 0 0) 0 ([] : List (List UInt8)) [] from NRow_lit w #[] (Nat.le_refl _) (by simp))
  have HX1 := Lib.hid (RdAt_reads RB_reads hx' bE)
  clear h' hx'
  by_cases hc : 1 ≤ seeds.length ∧ seeds.length ≤ 3
  · have HC := Lib.hid hc
    by_cases hl : xs.length ≤ 400
    · have e : sb xs seeds = strs xs.length seeds ++ [foldX xs (strs xs.length seeds)] := by unfold sb sbOk; rw [decide_eq_true hc, decide_eq_true hl]; rfl
      rw [e]
      have hc1 : 1 ≤ seeds.length := hc.1
      have hc4 : seeds.length ≤ 3 := hc.2
      have hl2 : ¬ 400 < xs.length := by omega
      clear e hc
      go_enter Try.func25, Try.ntmps25
      go_wp2_with fail
      refine (iCnt_t _ _ (by have := HC.out; omega) (by have := HC.out; omega)).mono ?_
      rintro e w2 ⟨rfl, rfl⟩
      go_wp2
      go_loopw [5, 6, 24] (fun o l' i' wr => ∃ (k : Nat) (vl vo : Value), k ≤ seeds.length ∧ i' = .int .i64 k ∧ l' = vl ∧ o = vo ∧ Hid (PairL w wr vo k (strs xs.length (seeds.take k)) vl (foldX xs (strs xs.length (seeds.take k)))) ∧ Below w.heap.size w wr) (fun _ _ i' _ => seeds.length - (intOf i').toNat)
      case atStart => exact ⟨0, _, _, Nat.zero_le _, rfl, rfl, rfl, Lib.hid (PairL.start NE.out RX.out), bE⟩
      case round =>
        obtain ⟨k, vl, vo, hk, rfl, hvl, hvo, PR, Tr⟩ := hrel
        subst hvl hvo
        have hfl : (foldX xs (strs xs.length (seeds.take k))).length ≤ 400 := foldX_len _ _ hl (strs_le _ _)
        have RL := Lib.hid (PR.out.2.2 wr Tr (fun _ _ _ => rfl) : Rd RB wr _ (foldX xs (strs xs.length (seeds.take k))))
        obtain ⟨Al, ll, cl, rfl, _⟩ := id RL.out
        obtain ⟨cells, F0, k1, k2, k3, k4⟩ := PR.out.1.open_
        obtain ⟨Ao, lo, co, rfl⟩ := own_shape k1
        have K := Lib.hid (And.intro k1 (And.intro k2 (And.intro k3 k4)))
        clear k1 k2 k3 k4
        by_cases hlt : k < seeds.length
        · obtain ⟨b, off, s, u, rfl, hbb, hx, hu, hr⟩ := H.out.at_ hlt
          unfold RI at hr
          subst hr
          have g1 := (Tr.cell (p := ⟨b, off + k, none⟩) hbb).trans hu
          have hsl := streamI_len s (xs.length : Int)
          have HS1 : Hid (strs xs.length (seeds.take (k + 1)) = strs xs.length (seeds.take k) ++ [streamI s (xs.length : Int)]) := Lib.hid (by rw [take_succ_get seeds k s hx, strs_snoc])
          have HS2 : Hid (foldX xs (strs xs.length (seeds.take k) ++ [streamI s (xs.length : Int)]) = xorB (foldX xs (strs xs.length (seeds.take k))) (streamI s (xs.length : Int))) := Lib.hid (foldX_snoc _ _ _)
          clear hx hu
          go_wp2_with fail
          refine (implStream_c s (xs.length : Nat) _ (by omega) (by omega)).mono ?_
          rintro e w2 ⟨v2, rfl, F2⟩
          obtain ⟨A2, l2, c2, rfl⟩ := fresh_slice F2
          have T2 := Tr.trans (F2.below.mono Tr.size)
          have KW := Lib.hid (ownsRow_at (w' := w2) K.out.1 (fun b hb' => F2.below.block b (K.out.1.lt b (by simpa using hb')).2))
          have FV := Lib.hid F2
          clear F2
          go_wp2_with (at_builtin; refine wpList_app elBB rfl (.tmp 32) (.tmp 34) rfl _ k cells rfl (KW.out.alloc _) (some ⟨w2.heap.size, 0, none⟩) 1 1 [.slice A2 l2 c2] rfl (Src_one _ _ _) (one_single _ rfl) (by simp only [maxLen]; omega) (by omega) ?_; intro v4 w4 hown hg hat)
          have NR := Lib.hid (NRow.app (Own_good FB_good) K.out.1 K.out.2.1 K.out.2.2.1 K.out.2.2.2 FV.out Tr.size hown hg hat)
          have r2 := fresh_app_rd K.out.1 FV.out hg
          have T4 := NRow.app_below (w1 := w2) T2 T2.size (fun b hb' => K.out.2.2.2 b (List.mem_append_left _ (by have hq : (Value.slice Ao lo co).ownBlock = some b := hb'; rw [hq]; simp))) hg
          have rl : Rd RB w4 (.slice Al ll cl) (foldX xs (strs xs.length (seeds.take k))) := PR.out.2.2 w4 T4 (fun b hb hne => by
            have hs := FV.out.below.size
            rw [hg.block b (by simp; omega) hne, Below.heap_alloc w2 _ b (by omega), FV.out.below.block b hb])
          obtain ⟨A4, l4, c4, rfl⟩ := own_shape hown
          clear hown hg hat
          go_wp2_with fail
          refine (implXorBytes_c _ _ _ _ _ rl r2 (by omega) (by omega)).mono ?_
          rintro e w3 ⟨v3, rfl, F3⟩
          have T5 := T4.trans (F3.below.mono T4.size)
          have P5 := Lib.hid (PairL.of (Pair_fresh (Own_good FB_good) NR.out F3 T4.size))
          clear F3 rl r2
          go_wp2
          go_roundw
          case rel => exact ⟨k + 1, _, _, by omega, by go_num, rfl, rfl, Lib.hid (by rw [HS1.out, HS2.out]; exact P5.out), T5⟩
          case measure => simp [intOf]; omega
        · have hkn : k = seeds.length := by omega
          subst hkn
          have hfin : strs xs.length (seeds.take seeds.length) = strs xs.length seeds := by rw [List.take_of_length_le (Nat.le_refl _)]
          have HFIN := Lib.hid hfin
          clear hfin
          obtain ⟨cells', F0', Fl, p1, p2, p3, p4, p5⟩ := PR.out.2.1 (by omega)
          clear K RL
          have K := Lib.hid (And.intro p1 (And.intro p2 (And.intro p3 (And.intro p4 p5))))
          clear p1 p2 p3 p4 p5
          go_wp2_with (at_builtin; refine wpList_app elBB rfl (.tmp 40) (.tmp 42) rfl _ seeds.length cells' rfl (K.out.1.alloc _) (some ⟨wr.heap.size, 0, none⟩) 1 1 [.slice Al ll cl] rfl (Src_one _ _ _) (one_single _ rfl) (by simp only [maxLen]; omega) (by omega) ?_; intro v4 w4 hown hg hat)
          have NF := Pair.push (Own_good FB_good) K.out.1 K.out.2.1 K.out.2.2.1 K.out.2.2.2.1 K.out.2.2.2.2 Tr.size hown hg hat
          rw [HFIN.out] at NF
          have T4 := NRow.app_below (w1 := wr) Tr Tr.size (fun b hb' => K.out.2.2.2.2 b (List.mem_append_left _ (by have hq : (Value.slice Ao lo co).ownBlock = some b := hb'; rw [hq]; simp))) hg
          have FF := Lib.hid (show Fresh OBB w w4 v4 (strs xs.length seeds ++ [foldX xs (strs xs.length seeds)]) from NF.fresh_ T4 (Nat.le_refl _))
          clear hown hg hat NF
          go_ret
          exact ⟨_, rfl, FF.out⟩
    · have e : sb xs seeds = [] := by unfold sb sbOk; rw [decide_eq_false hl, Bool.and_false]; rfl
      rw [e]
      have hl2 : 400 < xs.length := by omega
      clear e hc
      go_enter Try.func25, Try.ntmps25
      go_wp2_with fail
      refine (iCnt_t _ _ (by have := HC.out; omega) (by have := HC.out; omega)).mono ?_
      rintro e w2 ⟨rfl, rfl⟩
      go_wp2
      go_ret
      exact ⟨_, rfl, (NRow_nil (B := w.heap.size) _).fresh_ (Below.refl _ _) (Nat.le_refl _)⟩
  · have e : sb xs seeds = [] := by unfold sb sbOk; rw [decide_eq_false hc]; rfl
    rw [e]
    have HC := Lib.hid hc
    clear e hc
    go_enter Try.func25, Try.ntmps25
    go_wp2_with fail
    refine (iCnt_f _ _ (fun q => HC.out (by omega))).mono ?_
    rintro e w2 ⟨rfl, rfl⟩
    go_wp2
    go_ret
    exact ⟨_, rfl, (NRow_nil (B := w.heap.size) _).fresh_ (Below.refl _ _) (Nat.le_refl _)⟩
end Go.Proofs.Ytceogegjghmonaa
