/- CheckShares of both sides. -/
import Derived.Test.YtceogegjghmonaaSketch
import Derived.Deep.QuietTactic
import Derived.BigQuiet
namespace Go.Proofs.Ytceogegjghmonaa
set_option linter.unusedVariables false
open Go.RowKit

theorem specCnt_t (n : Int) (w : World) (h1 : 2 ≤ n) (h2 : n ≤ 4) : Calls Try.prog 123 #[.int .i64 n] w fun e w' => e = .returned (.bool true) ∧ w = w' := by
  go_enter Try.func123, Try.ntmps123
  go_wp2_with (go_at_call 92; refine (specIn_t _ _ _ _ h1 h2).mono ?_; rintro e w' ⟨rfl, rfl⟩)
  go_ret
  exact ⟨rfl, rfl⟩
theorem specCnt_f (n : Int) (w : World) (h : ¬ (2 ≤ n ∧ n ≤ 4)) : Calls Try.prog 123 #[.int .i64 n] w fun e w' => e = .returned (.bool false) ∧ w = w' := by
  have H := Lib.hid h
  clear h
  go_enter Try.func123, Try.ntmps123
  go_wp2_with (go_at_call 92; refine (specIn_f _ _ _ _ H.out).mono ?_; rintro e w' ⟨rfl, rfl⟩)
  go_ret
  exact ⟨rfl, rfl⟩
theorem implCnt_t (n : Int) (w : World) (h1 : 2 ≤ n) (h2 : n ≤ 4) : Calls Try.prog 84 #[.int .i64 n] w fun e w' => e = .returned (.bool true) ∧ w = w' := by
  go_enter Try.func84, Try.ntmps84
  go_wp2_with (go_at_call 100; refine (implIn_t _ _ _ _ h1 h2).mono ?_; rintro e w' ⟨rfl, rfl⟩)
  go_ret
  exact ⟨rfl, rfl⟩
theorem implCnt_f (n : Int) (w : World) (h : ¬ (2 ≤ n ∧ n ≤ 4)) : Calls Try.prog 84 #[.int .i64 n] w fun e w' => e = .returned (.bool false) ∧ w = w' := by
  have H := Lib.hid h
  clear h
  go_enter Try.func84, Try.ntmps84
  go_wp2_with (go_at_call 100; refine (implIn_f _ _ _ _ H.out).mono ?_; rintro e w' ⟨rfl, rfl⟩)
  go_ret
  exact ⟨rfl, rfl⟩
def okS (n : Nat) (x : List Int) : Bool := skOk x && decide (x.length = n)
def hdLen (l : List (List Int)) : Nat := (l.headD []).length
def csOk (l : List (List Int)) : Bool := decide (2 ≤ l.length ∧ l.length ≤ 4) && l.all (okS (hdLen l))
def chk (l : List (List Int)) (s : Int) : Bool := csOk l && acc (js (s1 s) l) (js (s2 s) l) (js (s3 s) l)
theorem okS_sk {n : Nat} {x : List Int} (h : skOk x = false) : okS n x = false := by unfold okS; rw [h]; rfl
theorem okS_len {n : Nat} {x : List Int} (h : ¬ x.length = n) : okS n x = false := by unfold okS; rw [decide_eq_false h]; simp
theorem okS_t {n : Nat} {x : List Int} (h1 : skOk x = true) (h2 : x.length = n) : okS n x = true := by unfold okS; rw [h1, decide_eq_true h2]; rfl
theorem chk_bad {l : List (List Int)} {s : Int} {k : Nat} {x : List Int} (hx : l[k]? = some x) (h : okS (hdLen l) x = false) : chk l s = false := by
  have e : l.all (okS (hdLen l)) = false := List.all_eq_false.2 ⟨x, List.mem_of_getElem? hx, by simp [h]⟩
  unfold chk csOk
  rw [e]; simp
theorem chk_cnt {l : List (List Int)} {s : Int} (h : ¬ (2 ≤ l.length ∧ l.length ≤ 4)) : chk l s = false := by unfold chk csOk; rw [decide_eq_false h]; simp
theorem chk_ok {l : List (List Int)} {s : Int} (h : 2 ≤ l.length ∧ l.length ≤ 4) (ha : l.all (okS (hdLen l)) = true) : chk l s = acc (js (s1 s) l) (js (s2 s) l) (js (s3 s) l) := by
  unfold chk csOk; rw [decide_eq_true h, ha]; simp
theorem hdLen_of {l : List (List Int)} {x : List Int} (h : l[0]? = some x) : hdLen l = x.length := by
  cases l with
  | nil => simp at h
  | cons y l => simp at h; subst h; rfl
theorem all_snoc {l : List (List Int)} {p : List Int → Bool} {k : Nat} {x : List Int} (h : (l.take k).all p = true) (hx : l[k]? = some x) (hp : p x = true) : (l.take (k + 1)).all p = true := by
  rw [take_succ_get l k x hx, List.all_append, h]; simp [hp]

set_option maxHeartbeats 2000000 in
theorem specCheck_c (v : Value) (l : List (List Int)) (s : Int) (w : World) (h : Rd (Rd RI) w v l) :
    Calls Try.prog 76 #[v, .int .i64 s] w fun e w' => e = .returned (.bool (chk l s)) ∧ Below w.heap.size w w' := by
  obtain ⟨A, n, c, rfl, h'⟩ := h
  obtain rfl := h'.1
  have h : Rd (Rd RI) w (.slice A l.length c) l := ⟨_, _, _, rfl, h'⟩
  have hnc := h'.2.1
  have hcm := h'.2.2.1
  unfold maxLen at hcm
  have H := Lib.hid h'
  have HH := Lib.hid h
  clear h' h
  go_enter Try.func76, Try.ntmps76
  go_wp2
  go_loopw [5] (fun i wr => ∃ k : Nat, k ≤ l.length ∧ i = .int .i64 k ∧ Hid ((l.take k).all (okS (hdLen l)) = true) ∧ Below w.heap.size w wr) (fun i _ => l.length - (intOf i).toNat)
  case atStart => exact ⟨0, Nat.zero_le _, rfl, Lib.hid (by simp), Below.refl _ _⟩
  case round =>
    obtain ⟨k, hk, rfl, hall, hb⟩ := hrel
    by_cases hlt : k < l.length
    · obtain ⟨b, off, x, u, rfl, hbb, hx, hu, hr⟩ := H.out.at_ hlt
      obtain ⟨b', off', x0, u0, he, hbb0, hx0, hu0, hr0⟩ := H.out.at_ (k := 0) (by omega)
      injection he with he
      injection he with he1 he2
      subst he1 he2
      obtain ⟨Ax, nx, cx, rfl, hrx⟩ := hr
      obtain rfl := hrx.1
      obtain ⟨Ay, ny, cy, rfl, hry⟩ := hr0
      obtain rfl := hry.1
      have hh0 := hdLen_of hx0
      have hcx := Nat.le_trans hrx.2.1 hrx.2.2.1
      have hcy := Nat.le_trans hry.2.1 hry.2.2.1
      unfold maxLen at hcx hcy
      have g1 := (hb.cell (p := ⟨b, off + k, none⟩) hbb).trans hu
      have g0 : wr.cell? ⟨b, off, none⟩ = some (.slice Ay x0.length cy) := (hb.cell (p := ⟨b, off, none⟩) hbb0).trans (by simpa using hu0)
      have RX : Hid (∀ n, Rd RI (wr.drewN n) (.slice Ax x.length cx) x) := Lib.hid (fun n => Rd_reads RI_reads _ _ _ _ ⟨_, _, _, rfl, hrx⟩ (below_drewN hb n))
      have hk0 : (0 : Int) ≤ (k : Int) := by omega
      have hkn : (k : Int) < (l.length : Int) := by omega
      have hz0 : 0 < l.length := by omega
      clear hu hu0 hrx hry hbb0
      cases hsk : skOk x with
      | false =>
        have HC := Lib.hid (chk_bad (s := s) hx (okS_sk hsk))
        have SK : Hid (∀ n, Calls Try.prog 130 #[.slice Ax x.length cx] (wr.drewN n) fun e w' => e = .returned (.bool false) ∧ wr.drewN n = w') := Lib.hid (fun n => by rw [← hsk]; exact specSkOk_c _ x _ (RX.out n))
        clear hsk hx hx0 hh0
        go_wp2_with fail
        go_quiet ((go_at_call 130; exact Calls.quiet_of_same ((SK.out _).mono fun _ _ ⟨h1, h2⟩ => ⟨h1, h2.symm⟩)))
        go_wp2
        go_ret
        exact ⟨by rw [HC.out]; rfl, below_drewN hb _⟩
      | true =>
        have SK : Hid (∀ n, Calls Try.prog 130 #[.slice Ax x.length cx] (wr.drewN n) fun e w' => e = .returned (.bool true) ∧ wr.drewN n = w') := Lib.hid (fun n => by rw [← hsk]; exact specSkOk_c _ x _ (RX.out n))
        by_cases hle : x.length = x0.length
        · have HA := Lib.hid (all_snoc hall.out hx (okS_t hsk (by rw [hh0]; exact hle)))
          have e1 : ((x.length : Int) != (x0.length : Int)) = false := by rw [hle]; simp
          clear hsk hx hx0 hh0 hle
          go_wp2_with fail
          go_quiet ((go_at_call 130; exact Calls.quiet_of_same ((SK.out _).mono fun _ _ ⟨h1, h2⟩ => ⟨h1, h2.symm⟩)))
          go_wp2
          go_roundw
          case rel => exact ⟨k + 1, by omega, by go_num, HA, below_drewN hb _⟩
          case measure => simp [intOf]; omega
        · have HC := Lib.hid (chk_bad (s := s) hx (okS_len (by rw [hh0]; exact hle)))
          have e1 : ((x.length : Int) != (x0.length : Int)) = true := by rw [bne_iff_ne]; omega
          clear hsk hx hx0 hh0 hle
          go_wp2_with fail
          go_quiet ((go_at_call 130; exact Calls.quiet_of_same ((SK.out _).mono fun _ _ ⟨h1, h2⟩ => ⟨h1, h2.symm⟩)))
          go_wp2
          go_ret
          exact ⟨by rw [HC.out]; rfl, below_drewN hb _⟩
    · have hkn : k = l.length := by omega
      subst hkn
      have ha := hall.out
      rw [List.take_of_length_le (Nat.le_refl _)] at ha
      have hl := Rd_reads (Rd_reads RI_reads) _ _ _ _ HH.out hb
      by_cases hc : 2 ≤ l.length ∧ l.length ≤ 4
      · have HC := Lib.hid (chk_ok (s := s) hc ha)
        have HQ := Lib.hid hc
        clear ha hall hc
        go_wp2_with fail
        refine (specJoinSk_c _ l s _ hl).mono ?_
        rintro e w1 ⟨rfl, b1⟩
        have hb1 := hb.trans (b1.mono hb.size)
        clear b1 hl
        go_wp2_with fail
        refine (specCnt_t _ _ (by have := HQ.out; omega) (by have := HQ.out; omega)).mono ?_
        rintro e w2 ⟨rfl, rfl⟩
        go_wp2_with fail
        refine (specAcceptsSketch_c _ _ _ _).mono ?_
        rintro e w3 ⟨rfl, rfl⟩
        rw [← HC.out]
        go_wp2
        go_ret
        exact ⟨rfl, hb1⟩
      · have HC := Lib.hid (chk_cnt (s := s) hc)
        have HQ := Lib.hid hc
        clear ha hall hc
        go_wp2_with fail
        refine (specJoinSk_c _ l s _ hl).mono ?_
        rintro e w1 ⟨rfl, b1⟩
        have hb1 := hb.trans (b1.mono hb.size)
        clear b1 hl
        go_wp2_with fail
        refine (specCnt_f _ _ (fun q => HQ.out (by omega))).mono ?_
        rintro e w2 ⟨rfl, rfl⟩
        go_wp2
        go_ret
        exact ⟨by rw [HC.out]; rfl, hb1⟩
set_option maxHeartbeats 2000000 in
theorem implCheck_c (v : Value) (l : List (List Int)) (s : Int) (w : World) (h : Rd (Rd RI) w v l) :
    Calls Try.prog 70 #[v, .int .i64 s] w fun e w' => e = .returned (.bool (chk l s)) ∧ Below w.heap.size w w' := by
  obtain ⟨A, n, c, rfl, h'⟩ := h
  obtain rfl := h'.1
  have h : Rd (Rd RI) w (.slice A l.length c) l := ⟨_, _, _, rfl, h'⟩
  have hnc := h'.2.1
  have hcm := h'.2.2.1
  unfold maxLen at hcm
  have H := Lib.hid h'
  have HH := Lib.hid h
  clear h' h
  by_cases hc : 2 ≤ l.length ∧ l.length ≤ 4
  · obtain ⟨b, off, x0, u0, rfl, hbb0, hx0, hu0, hr0⟩ := H.out.at_ (k := 0) (by omega)
    obtain ⟨Ay, ny, cy, rfl, hry⟩ := hr0
    obtain rfl := hry.1
    have hh0 := hdLen_of hx0
    have hcy := Nat.le_trans hry.2.1 hry.2.2.1
    unfold maxLen at hcy
    have g0 : w.cell? ⟨b, off, none⟩ = some (.slice Ay x0.length cy) := by simpa using hu0
    have HQ := Lib.hid hc
    have hz0 : 0 < l.length := by omega
    have HX0 := Lib.hid hx0
    have HH0 := Lib.hid hh0
    clear hu0 hry hc hx0 hh0
    by_cases h64 : x0.length ≤ 64
    · have h64' : ¬ (x0.length : Int) > 64 := by omega
      go_enter Try.func70, Try.ntmps70
      go_wp2_with (go_at_call 84; refine (implCnt_t _ _ (by have := HQ.out; omega) (by have := HQ.out; omega)).mono ?_; rintro e w' ⟨rfl, rfl⟩)
      go_loop [20] (fun i => ∃ k : Nat, k ≤ l.length ∧ i = .int .i64 k ∧ Hid ((l.take k).all (okS (hdLen l)) = true)) (fun i => l.length - (intOf i).toNat)
      case atStart => exact ⟨0, Nat.zero_le _, rfl, Lib.hid (by simp)⟩
      case round =>
        obtain ⟨k, hk, rfl, hall⟩ := hrel
        by_cases hlt : k < l.length
        · obtain ⟨b', off', x, u, he, hbb, hx, hu, hr⟩ := H.out.at_ hlt
          injection he with he
          injection he with he1 he2
          subst he1 he2
          obtain ⟨Ax, nx, cx, rfl, hrx⟩ := hr
          obtain rfl := hrx.1
          have hcx := Nat.le_trans hrx.2.1 hrx.2.2.1
          unfold maxLen at hcx
          have RX : Rd RI w (.slice Ax x.length cx) x := ⟨_, _, _, rfl, hrx⟩
          have hfe := implFE_c _ x w RX
          by_cases hle : x.length = x0.length
          · have e1 : ((x.length : Int) != (x0.length : Int)) = false := by rw [hle]; simp
            cases ha : allIn 0 1018 x with
            | false =>
              have hsk : skOk x = false := by unfold skOk; rw [ha]; simp
              have HC := Lib.hid (chk_bad (s := s) hx (okS_sk hsk))
              rw [ha] at hfe
              have HF := Lib.hid hfe
              clear hsk hx hfe ha hle hrx RX
              go_wp2_with (go_at_call 127; refine HF.out.mono ?_; rintro e w' ⟨rfl, rfl⟩)
              go_ret
              exact ⟨by rw [HC.out]; rfl, Below.refl _ _⟩
            | true =>
              have hsk : skOk x = true := by unfold skOk; rw [ha, decide_eq_true (by omega)]; rfl
              have HA := Lib.hid (all_snoc hall.out hx (okS_t hsk (by rw [HH0.out]; exact hle)))
              rw [ha] at hfe
              have HF := Lib.hid hfe
              clear hsk hx hfe ha hle hrx RX
              go_wp2_with (go_at_call 127; refine HF.out.mono ?_; rintro e w' ⟨rfl, rfl⟩)
              go_round
              case rel => exact ⟨k + 1, by omega, by go_num, HA⟩
              case measure => simp [intOf]; omega
          · have HC := Lib.hid (chk_bad (s := s) hx (okS_len (by rw [HH0.out]; exact hle)))
            have e1 : ((x.length : Int) != (x0.length : Int)) = true := by rw [bne_iff_ne]; omega
            clear hx hfe hle hrx RX
            go_wp2
            go_ret
            exact ⟨by rw [HC.out]; rfl, Below.refl _ _⟩
        · have hkn : k = l.length := by omega
          subst hkn
          have ha := hall.out
          rw [List.take_of_length_le (Nat.le_refl _)] at ha
          have HC := Lib.hid (chk_ok (s := s) HQ.out ha)
          clear ha hall
          go_wp2_with fail
          refine (implJoinSk_c _ l s _ HH.out).mono ?_
          rintro e w1 ⟨rfl, b1⟩
          go_wp2_with fail
          refine (implAcceptsSketch_c _ _ _ _).mono ?_
          rintro e w3 ⟨rfl, rfl⟩
          rw [← HC.out]
          go_wp2
          go_ret
          exact ⟨rfl, b1⟩
    · have h64' : (x0.length : Int) > 64 := by omega
      have hsk : skOk x0 = false := by unfold skOk; rw [decide_eq_false h64]; rfl
      have HC := Lib.hid (chk_bad (s := s) HX0.out (okS_sk hsk))
      clear hsk h64
      go_enter Try.func70, Try.ntmps70
      go_wp2_with (go_at_call 84; refine (implCnt_t _ _ (by have := HQ.out; omega) (by have := HQ.out; omega)).mono ?_; rintro e w' ⟨rfl, rfl⟩)
      go_ret
      exact ⟨by rw [HC.out]; rfl, Below.refl _ _⟩
  · have HC := Lib.hid (chk_cnt (s := s) hc)
    have HQ := Lib.hid hc
    clear hc
    go_enter Try.func70, Try.ntmps70
    go_wp2_with (go_at_call 84; refine (implCnt_f _ _ (fun q => HQ.out (by omega))).mono ?_; rintro e w' ⟨rfl, rfl⟩)
    go_ret
    exact ⟨by rw [HC.out]; rfl, Below.refl _ _⟩
end Go.Proofs.Ytceogegjghmonaa
