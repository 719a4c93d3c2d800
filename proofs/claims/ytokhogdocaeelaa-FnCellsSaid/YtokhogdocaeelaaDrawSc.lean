/- What the reference's drawing functions give for SealCell. -/
import Derived.Test.YtokhogdocaeelaaDraw3
import Derived.Test.YtokhogdocaeelaaDraw2
import Derived.Test.YtokhogdocaeelaaSealJ
namespace Go.Proofs.Ytokhogdocaeelaa
set_option linter.unusedVariables false
open Go.RowKit

set_option maxHeartbeats 1000000 in
/-- An element of a short list that is read in the world at hand. -/
theorem lintM_c (V : Value) (xs : List UInt8) (g : Nat) (ys : List Int) (w0 w : World) (b off m c : Nat) (hx : Rd RB w0 V xs) (hn : xs.length ≤ 1048576) (h : CurT w0 V g w) (hy : Rd RI w (.slice (some ⟨b, off, none⟩) m c) ys) (hbg : b ≠ g) (h1 : 1 ≤ m) (h2 : m ≤ 100) :
    Calls Try.prog 60 #[.pointer (some ⟨g, 0, none⟩), .slice (some ⟨b, off, none⟩) m c] w fun e w' => ∃ r : Int, r ∈ ys ∧ e = .returned (.int .i64 r) ∧ CurT w0 V g w' ∧ Chg g (g + 1) w w' := by
  have BN := Lib.hid (belowN_c V xs g (m : Int) w0 w hx hn (by omega) (by omega) h)
  have HY := Lib.hid hy
  have HB := Lib.hid hbg
  clear hx h hy hbg
  go_enter Try.func60, Try.ntmps60
  go_wp2_with fail
  refine BN.out.mono ?_
  rintro e w1 ⟨r, hr, rfl, hc, hg⟩
  obtain ⟨k, rfl⟩ := Int.eq_ofNat_of_zero_le hr.1
  obtain ⟨A', n', c', e', hy'⟩ := HY.out
  injection e' with e1 e2 e3
  subst e1 e2 e3
  obtain ⟨b', off', x, u, e4, hbb, hxk, hu, hr'⟩ := hy'.at_ (show k < m by omega)
  injection e4 with e4
  injection e4 with e5 e6
  subst e5 e6
  unfold RI at hr'
  subst hr'
  have hu1 : w1.cell? ⟨b, off + k, none⟩ = some (.int .i64 x) := by
    rw [← hu]
    unfold World.cell?
    rw [hg.block b hbb (fun q => HB.out (by omega))]
  have hxx := List.mem_of_getElem? hxk
  have HC := Lib.hid hc
  have HG := Lib.hid hg
  have hk0 : (0 : Int) ≤ (k : Int) := by omega
  have hkn : (k : Int) < (m : Int) := by omega
  clear hc hg hu hxk hy'
  go_wp2
  go_ret
  exact ⟨x, hxx, rfl, HC.out, HG.out⟩
theorem Drew.fin {α : Type} {R : FRel α} (hR : Good R) {g q : Nat} {w w2 w3 W : World} {v : Value} {x : α} (h : Drew R g w2 w3 v x) (hg : g < w.heap.size) (hc : Chg g (g + 1) w w2) (hq : w.heap.size ≤ q) (hq2 : q < w2.heap.size) (hW : Chg q (q + 1) w3 W) : Drew R g w W v x := by
  have hch := hc.trans h.chg
  obtain ⟨wm, hm, F, f1, f2, f3, f4⟩ := h
  have h1 := hc.size
  have h2 := hch.size
  have h3 := hm.2
  refine Drew_of hg ⟨hW.os.trans hch.os, hW.tape.trans hch.tape, hW.output.trans hch.output, Nat.le_trans h2 hW.size, fun k hk hn => (hW.block k (by omega) (fun q => by omega)).trans (hch.block k hk hn)⟩ (hR.stab f1 (fun b hb => hW.block b (hR.lt f1 b hb) (fun e => by have := f3 b hb; omega))) f2 (fun b hb => by have := f3 b hb; omega)
set_option maxHeartbeats 1000000 in
theorem key_c (V : Value) (xs : List UInt8) (g : Nat) (w0 w : World) (hx : Rd RB w0 V xs) (hn : xs.length ≤ 1048576) (h : CurT w0 V g w) :
    Calls Try.prog 101 #[.pointer (some ⟨g, 0, none⟩)] w fun e w' => ∃ r : Int, (-1 ≤ r ∧ r ≤ 2147483647) ∧ e = .returned (.int .i64 r) ∧ CurT w0 V g w' ∧ Chg g (g + 1) w w' := by
  have ON := Lib.hid (once_c V xs g 10 w0 w hx hn (by omega) (by omega) h)
  have BN : Hid (∀ W, CurT w0 V g W → Calls Try.prog 61 #[.pointer (some ⟨g, 0, none⟩), .int .i64 99999] W (DrewN 0 (99999 - 1) w0 V g W)) := Lib.hid (fun W hW => belowN_c V xs g 99999 w0 W hx hn (by omega) (by omega) hW)
  have LI : Hid (∀ W, g < W.heap.size → CurT w0 V g W → Calls Try.prog 60 #[.pointer (some ⟨g, 0, none⟩), .slice (some ⟨W.heap.size, 0, none⟩) 4 4] (W.alloc (.cells #[.int .i64 0, .int .i64 (-1), .int .i64 2147483646, .int .i64 2147483647] 3)) fun e w' => ∃ r : Int, r ∈ ([0, -1, 2147483646, 2147483647] : List Int) ∧ e = .returned (.int .i64 r) ∧ CurT w0 V g w' ∧ Chg g (g + 1) (W.alloc (.cells #[.int .i64 0, .int .i64 (-1), .int .i64 2147483646, .int .i64 2147483647] 3)) w') := Lib.hid (fun W hg hW => by
    have r := rd_rowI (Row_lit (E := 3) (B := W.heap.size) W #[.int .i64 0, .int .i64 (-1), .int .i64 2147483646, .int .i64 2147483647] (Nat.le_refl _) (by simp [maxLen])).1 (xs := [0, -1, 2147483646, 2147483647]) rfl
    exact lintM_c V xs g [0, -1, 2147483646, 2147483647] w0 _ W.heap.size 0 4 4 hx hn (hW.step (below_alloc W _)) r (by omega) (by omega) (by omega))
  have H := Lib.hid h
  have hgl := h.lt
  clear h hx
  go_enter Try.func101, Try.ntmps101
  go_wp2_with fail
  refine ON.out.mono ?_
  rintro e w1 ⟨b, rfl, hc, hg⟩
  have HC := Lib.hid hc
  have HG := Lib.hid hg
  have hs := hg.size
  clear hc hg
  cases b with
  | true =>
    go_wp2_with fail
    refine (LI.out w1 (by omega) HC.out).mono ?_
    rintro e w2 ⟨r, hr, rfl, hc, hg⟩
    have HC2 := Lib.hid hc
    have HG2 := Lib.hid ((HG.out.trans (Chg.of_below (below_alloc w1 _))).trans hg)
    have HR := Lib.hid hr
    clear hc hg hr
    go_wp2
    go_ret
    exact ⟨r, by have := HR.out; simp at this; omega, rfl, HC2.out, HG2.out⟩
  | false =>
    go_wp2_with fail
    refine (BN.out w1 HC.out).mono ?_
    rintro e w2 ⟨r, hr, rfl, hc, hg⟩
    have HC2 := Lib.hid hc
    have HG2 := Lib.hid (HG.out.trans hg)
    clear hc hg
    go_wp2
    go_ret
    exact ⟨1 + r, by omega, rfl, HC2.out, HG2.out⟩
set_option maxHeartbeats 1000000 in
theorem ctr_c (V : Value) (xs : List UInt8) (g : Nat) (w0 w : World) (hx : Rd RB w0 V xs) (hn : xs.length ≤ 1048576) (h : CurT w0 V g w) :
    Calls Try.prog 102 #[.pointer (some ⟨g, 0, none⟩)] w fun e w' => ∃ r : Int, (r ∈ [-1, 0, 1000000000000, 1000000000001] ∨ (0 ≤ r ∧ r ≤ 49)) ∧ e = .returned (.int .i64 r) ∧ CurT w0 V g w' ∧ Chg g (g + 1) w w' := by
  have ON := Lib.hid (once_c V xs g 6 w0 w hx hn (by omega) (by omega) h)
  have BN : Hid (∀ W, CurT w0 V g W → Calls Try.prog 61 #[.pointer (some ⟨g, 0, none⟩), .int .i64 50] W (DrewN 0 (50 - 1) w0 V g W)) := Lib.hid (fun W hW => belowN_c V xs g 50 w0 W hx hn (by omega) (by omega) hW)
  have LI : Hid (∀ W, g < W.heap.size → CurT w0 V g W → Calls Try.prog 60 #[.pointer (some ⟨g, 0, none⟩), .slice (some ⟨W.heap.size, 0, none⟩) 4 4] (W.alloc (.cells #[.int .i64 (-1), .int .i64 0, .int .i64 1000000000000, .int .i64 1000000000001] 3)) fun e w' => ∃ r : Int, r ∈ ([-1, 0, 1000000000000, 1000000000001] : List Int) ∧ e = .returned (.int .i64 r) ∧ CurT w0 V g w' ∧ Chg g (g + 1) (W.alloc (.cells #[.int .i64 (-1), .int .i64 0, .int .i64 1000000000000, .int .i64 1000000000001] 3)) w') := Lib.hid (fun W hg hW => by
    have r := rd_rowI (Row_lit (E := 3) (B := W.heap.size) W #[.int .i64 (-1), .int .i64 0, .int .i64 1000000000000, .int .i64 1000000000001] (Nat.le_refl _) (by simp [maxLen])).1 (xs := [-1, 0, 1000000000000, 1000000000001]) rfl
    exact lintM_c V xs g [-1, 0, 1000000000000, 1000000000001] w0 _ W.heap.size 0 4 4 hx hn (hW.step (below_alloc W _)) r (by omega) (by omega) (by omega))
  have H := Lib.hid h
  have hgl := h.lt
  clear h hx
  go_enter Try.func102, Try.ntmps102
  go_wp2_with fail
  refine ON.out.mono ?_
  rintro e w1 ⟨b, rfl, hc, hg⟩
  have HC := Lib.hid hc
  have HG := Lib.hid hg
  have hs := hg.size
  clear hc hg
  cases b with
  | true =>
    go_wp2_with fail
    refine (LI.out w1 (by omega) HC.out).mono ?_
    rintro e w2 ⟨r, hr, rfl, hc, hg⟩
    have HC2 := Lib.hid hc
    have HG2 := Lib.hid ((HG.out.trans (Chg.of_below (below_alloc w1 _))).trans hg)
    have HR := Lib.hid hr
    clear hc hg hr
    go_wp2
    go_ret
    exact ⟨r, by exact .inl HR.out, rfl, HC2.out, HG2.out⟩
  | false =>
    go_wp2_with fail
    refine (BN.out w1 HC.out).mono ?_
    rintro e w2 ⟨r, hr, rfl, hc, hg⟩
    have HC2 := Lib.hid hc
    have HG2 := Lib.hid (HG.out.trans hg)
    clear hc hg
    go_wp2
    go_ret
    exact ⟨r, .inr (by omega), rfl, HC2.out, HG2.out⟩
set_option maxHeartbeats 1000000 in
theorem plain_c (V : Value) (xs : List UInt8) (g : Nat) (w0 w : World) (hx : Rd RB w0 V xs) (hn : xs.length ≤ 1048576) (h : CurT w0 V g w) :
    Calls Try.prog 128 #[.pointer (some ⟨g, 0, none⟩)] w fun e w' => ∃ m A l c body, e = .returned (.agg #[.int .i64 m, .slice A l c]) ∧ (0 ≤ m ∧ m ≤ 3) ∧ body.length ≤ 14 ∧ Drew (Own 5 FB) g w w' (.slice A l c) body ∧ CurT w0 V g w' := by
  have hgl := h.lt
  have hge := h.ge
  have cw := Lib.hid (Chg.of_below (lo := g) (hi := g + 1) (below_alloc w (.cells #[.int .i64 0, .slice none 0 0] 58)))
  have C0 := Lib.hid (h.step (below_alloc w (.cells #[.int .i64 0, .slice none 0 0] 58)))
  have B0 := Lib.hid (Box.new w 58 #[.int .i64 0, .slice none 0 0])
  have BN : Hid (∀ (n : Int) W, 1 ≤ n → n ≤ 1000000 → CurT w0 V g W → Calls Try.prog 61 #[.pointer (some ⟨g, 0, none⟩), .int .i64 n] W (DrewN 0 (n - 1) w0 V g W)) := Lib.hid (fun n W h1 h2 hW => belowN_c V xs g n w0 W hx hn h1 h2 hW)
  have BY : Hid (∀ (n : Nat) W, n ≤ 1000000 → CurT w0 V g W → Calls Try.prog 105 #[.pointer (some ⟨g, 0, none⟩), .int .i64 (n : Int)] W fun e w' => ∃ v' ys, ys.length = n ∧ e = .returned v' ∧ Drew (Own 5 FB) g W w' v' ys ∧ CurT w0 V g w') := Lib.hid (fun n W h1 hW => bytes_c V xs g n w0 W hx hn h1 hW)
  clear h hx
  go_enter Try.func128, Try.ntmps128
  go_wp2_with fail
  refine (BN.out 4 _ (by omega) (by omega) C0.out).mono ?_
  rintro e w1 ⟨m, hm, rfl, hc, hg⟩
  have C1 := Lib.hid hc
  have G1 := Lib.hid (cw.out.trans hg)
  have B1 := Lib.hid (B0.out.chg hg (by omega))
  clear hc hg cw C0 B0
  go_wp2_with fail
  refine (BN.out 15 _ (by omega) (by omega) C1.out).mono ?_
  rintro e w2 ⟨r, hr, rfl, hc, hg⟩
  obtain ⟨k, rfl⟩ := Int.eq_ofNat_of_zero_le hr.1
  have C2 := Lib.hid hc
  have G2 := Lib.hid (G1.out.trans hg)
  have B2 := Lib.hid (B1.out.chg hg (by omega))
  clear hc hg C1 G1 B1
  go_wp2_with fail
  refine (BY.out k _ (by omega) C2.out).mono ?_
  rintro e w3 ⟨v3, body, hb, rfl, D, hc⟩
  obtain ⟨A, l, c, rfl⟩ : ∃ A l c, v3 = .slice A l c := by obtain ⟨_, _, F⟩ := D; exact fresh_slice F
  have B3 := B2.out.chg D.chg (by omega)
  have d0 := B3.cell 0
  have d1 := B3.cell 1
  have f0 := B3.frozen 0
  have f1 := B3.frozen 1
  have d2 := (B3.set_ 0 (.int .i64 m)).cell 1
  have f2 := (B3.set_ 0 (.int .i64 m)).frozen 1
  have B4 := (B3.set_ 0 (.int .i64 m)).set_ 1 (.slice A l c)
  have e0 := B4.cell 0
  have e1 := B4.cell 1
  have DD := Lib.hid (D.fin (Own_good FB_good) hgl G2.out (q := w.heap.size) (Nat.le_refl _) B2.out.lt (((Chg.refl _ _ w3).setCell (p := ⟨w.heap.size, 0, none⟩) (Nat.le_refl _) (Nat.lt_succ_self _) (.int .i64 m)).setCell (p := ⟨w.heap.size, 1, none⟩) (Nat.le_refl _) (Nat.lt_succ_self _) (.slice A l c)))
  have CC := Lib.hid ((hc.far (p := ⟨w.heap.size, 0, none⟩) (by show g ≠ w.heap.size; omega) (by show w0.heap.size ≤ w.heap.size; omega) (.int .i64 m)).far (p := ⟨w.heap.size, 1, none⟩) (by show g ≠ w.heap.size; omega) (by show w0.heap.size ≤ w.heap.size; omega) (.slice A l c))
  have HB := Lib.hid hb
  clear B3 B4 D hc hb
  go_wp2
  refine bodyPost_ret (v := .agg #[.int .i64 m, .slice A l c]) (by simp [results, Try.results128, go_sem, e0, e1]) rfl ?_
  exact ⟨m, A, l, c, body, rfl, by omega, by rw [HB.out]; omega, DD.out, CC.out⟩
end Go.Proofs.Ytokhogdocaeelaa
