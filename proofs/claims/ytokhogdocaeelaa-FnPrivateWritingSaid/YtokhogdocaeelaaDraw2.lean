/- The drawing functions: a new cursor, a seed, seeds. -/
import Derived.Test.YtokhogdocaeelaaDraw1
namespace Go.Proofs.Ytokhogdocaeelaa
set_option linter.unusedVariables false
open Go.RowKit

theorem i64_and30 (n : Int) : bits .and .i64 n 1073741823 = n % 1073741824 := by
  have h1 : (BitVec.ofInt 64 1073741823).toNat = 2 ^ 30 - 1 := by decide
  have key : (BitVec.ofInt 64 n &&& BitVec.ofInt 64 1073741823).toNat = (n % ((2 ^ 64 : Nat) : Int)).toNat % 2 ^ 30 := by
    rw [BitVec.toNat_and, BitVec.toNat_ofInt, h1, Nat.and_two_pow_sub_one_eq_mod]
  show IntKind.i64.wrap ((BitVec.ofInt 64 n &&& BitVec.ofInt 64 1073741823).toNat : Nat) = n % 1073741824
  rw [key, IntKind.wrap_i64]
  omega
theorem low30 (a : Int) : 0 ≤ a % 1073741824 ∧ a % 1073741824 ≤ 1073741823 := by omega

set_option maxHeartbeats 2000000 in
set_option maxRecDepth 100000 in
theorem new_c (v : Value) (xs : List UInt8) (w : World) (hx : Rd RB w v xs) (hn : xs.length ≤ 1048576) :
    Calls Try.prog 59 #[v] w fun e w' => e = .returned (.pointer (some ⟨w.heap.size, 0, none⟩)) ∧ CurT w v w.heap.size w' := by
  obtain ⟨A, n, c, rfl, hx'⟩ := hx
  obtain rfl := hx'.1
  have HX := Lib.hid hx'
  clear hx'
  go_enter Try.func59, Try.ntmps59
  go_wp2
  go_loop [3, 4] (fun h i => ∃ (k : Nat) (z : Int), k ≤ xs.length ∧ k ≤ 4000 ∧ (0 ≤ z ∧ z ≤ 1073741823) ∧ i = .int .i64 k ∧ h = .int .i64 z) (fun _ i => xs.length - (intOf i).toNat)
  case atStart => exact ⟨0, 193017 + (xs.length : Nat), Nat.zero_le _, by omega, by omega, rfl, rfl⟩
  case round =>
    obtain ⟨k, z, hk, hk4, hz, rfl, rfl⟩ := hrel
    by_cases hlt : k < xs.length
    · by_cases hlt4 : k < 4000
      · obtain ⟨b, off, x, u, rfl, hbb, hxk, hu, hr⟩ := HX.out.at_ hlt
        unfold RB at hr
        subst hr
        have hxb := x.toNat_lt
        have hk0 : (0 : Int) ≤ (k : Int) := by omega
        have hkn : (k : Int) < (xs.length : Int) := by omega
        clear hxk
        go_wp2
        rw [i64_and30]
        have hl := low30 (z * 137 + (x.toNat : Int) + 11)
        generalize (z * 137 + (x.toNat : Int) + 11) % 1073741824 = z2 at *
        go_wp2
        go_round
        case rel => exact ⟨k + 1, z2, by omega, by omega, hl, by go_num, rfl⟩
        case measure => simp [intOf]; omega
      · have hbx := Lib.hid (boxes1 w 101 #[.slice A xs.length c, .int .i64 0, .int .i64 z])
        go_wp2
        go_ret
        exact ⟨rfl, 0, z, hbx.out.1, by omega, by omega, hbx.out.2.1, Nat.le_refl _⟩
    · have hbx := Lib.hid (boxes1 w 101 #[.slice A xs.length c, .int .i64 0, .int .i64 z])
      have hkl : k = xs.length := by omega
      subst hkl
      go_wp2
      go_ret
      exact ⟨rfl, 0, z, hbx.out.1, by omega, by omega, hbx.out.2.1, Nat.le_refl _⟩
set_option maxHeartbeats 1000000 in
theorem seed_c (V : Value) (xs : List UInt8) (g : Nat) (w0 w : World) (hx : Rd RB w0 V xs) (hn : xs.length ≤ 1048576) (h : CurT w0 V g w) :
    Calls Try.prog 106 #[.pointer (some ⟨g, 0, none⟩)] w (DrewN (-1) 2147483647 w0 V g w) := by
  have ON := Lib.hid (once_c V xs g 8 w0 w hx hn (by omega) (by omega) h)
  have BN : Hid (∀ W, CurT w0 V g W → Calls Try.prog 61 #[.pointer (some ⟨g, 0, none⟩), .int .i64 1000000] W (DrewN 0 (1000000 - 1) w0 V g W)) := Lib.hid (fun W hW => belowN_c V xs g 1000000 w0 W hx hn (by omega) (by omega) hW)
  have LI : Hid (∀ W, g < W.heap.size → CurT w0 V g W → Calls Try.prog 60 #[.pointer (some ⟨g, 0, none⟩), .slice (some ⟨W.heap.size, 0, none⟩) 4 4] (W.alloc (.cells #[.int .i64 (-1), .int .i64 0, .int .i64 2147483646, .int .i64 2147483647] 3)) (DrewN (-1) 2147483647 w0 V g (W.alloc (.cells #[.int .i64 (-1), .int .i64 0, .int .i64 2147483646, .int .i64 2147483647] 3)))) := Lib.hid (fun W hg hW => by
    have r := rd_rowI (Row_lit (E := 3) (B := W.heap.size) W #[.int .i64 (-1), .int .i64 0, .int .i64 2147483646, .int .i64 2147483647] (Nat.le_refl _) (by simp [maxLen])).1 (xs := [-1, 0, 2147483646, 2147483647]) rfl
    exact lint_c V xs g [-1, 0, 2147483646, 2147483647] (-1) 2147483647 w0 _ W.heap.size 0 4 4 hx hn (hW.step (below_alloc W _)) r (by omega) (by omega) (by omega) (by simp))
  have H := Lib.hid h
  have hgl := h.lt
  clear h hx
  go_enter Try.func106, Try.ntmps106
  go_wp2_with fail
  refine ON.out.mono ?_
  rintro e w1 ⟨b, rfl, hc, hg⟩
  have HC := Lib.hid hc
  have HG := Lib.hid hg
  have hs := hg.size
  clear hc hg
  cases b with
  | true =>
    go_wp2_with fail
    refine (LI.out w1 (by omega) HC.out).mono ?_
    rintro e w2 ⟨r, hr, rfl, hc, hg⟩
    have HC2 := Lib.hid hc
    have HG2 := Lib.hid ((HG.out.trans (Chg.of_below (below_alloc w1 _))).trans hg)
    clear hc hg
    go_wp2
    go_ret
    exact ⟨r, hr, rfl, HC2.out, HG2.out⟩
  | false =>
    go_wp2_with fail
    refine (BN.out w1 HC.out).mono ?_
    rintro e w2 ⟨r, hr, rfl, hc, hg⟩
    have HC2 := Lib.hid hc
    have HG2 := Lib.hid (HG.out.trans hg)
    clear hc hg
    go_wp2
    go_ret
    exact ⟨r, by omega, rfl, HC2.out, HG2.out⟩
set_option maxHeartbeats 2000000 in
set_option maxRecDepth 100000 in
theorem seeds_c (V : Value) (xs : List UInt8) (g : Nat) (w0 w : World) (hx : Rd RB w0 V xs) (hn : xs.length ≤ 1048576) (h : CurT w0 V g w) :
    Calls Try.prog 63 #[.pointer (some ⟨g, 0, none⟩)] w fun e w' => ∃ v' ys, ys.length ≤ 4 ∧ e = .returned v' ∧ Drew (Own 3 FI) g w w' v' ys ∧ CurT w0 V g w' := by
  have SE : Hid (∀ W, CurT w0 V g W → Calls Try.prog 106 #[.pointer (some ⟨g, 0, none⟩)] W (DrewN (-1) 2147483647 w0 V g W)) := Lib.hid (fun W hW => seed_c V xs g w0 W hx hn hW)
  have hgl := h.lt
  have LI : Hid (Calls Try.prog 60 #[.pointer (some ⟨g, 0, none⟩), .slice (some ⟨w.heap.size + 1, 0, none⟩) 6 6] ((w.alloc (.cells #[] 3)).alloc (.cells #[.int .i64 1, .int .i64 2, .int .i64 2, .int .i64 3, .int .i64 0, .int .i64 4] 3)) (DrewN 0 4 w0 V g ((w.alloc (.cells #[] 3)).alloc (.cells #[.int .i64 1, .int .i64 2, .int .i64 2, .int .i64 3, .int .i64 0, .int .i64 4] 3)))) := Lib.hid (by
    have r := rd_rowI (Row_lit (E := 3) (B := w.heap.size) (w.alloc (.cells #[] 3)) #[.int .i64 1, .int .i64 2, .int .i64 2, .int .i64 3, .int .i64 0, .int .i64 4] (by simp) (by simp [maxLen])).1 (xs := [1, 2, 2, 3, 0, 4]) rfl
    rw [World.size_alloc] at r
    exact lint_c V xs g [1, 2, 2, 3, 0, 4] 0 4 w0 _ (w.heap.size + 1) 0 6 6 hx hn ((h.step (below_alloc w _)).step (below_alloc _ _)) r (by omega) (by omega) (by omega) (by simp))
  have R0 : Hid (Row 3 w.heap.size ((w.alloc (.cells #[] 3)).alloc (.cells #[.int .i64 1, .int .i64 2, .int .i64 2, .int .i64 3, .int .i64 0, .int .i64 4] 3)) (.slice (some ⟨w.heap.size, 0, none⟩) 0 0) 0 []) := Lib.hid ((Row_lit (E := 3) w #[] (Nat.le_refl _) (by simp)).below (below_alloc _ _))
  have C0 : Hid (Chg g (g + 1) w ((w.alloc (.cells #[] 3)).alloc (.cells #[.int .i64 1, .int .i64 2, .int .i64 2, .int .i64 3, .int .i64 0, .int .i64 4] 3))) := Lib.hid ((Chg.of_below (below_alloc w _)).trans (Chg.of_below (below_alloc _ _)))
  clear h hx
  go_enter Try.func63, Try.ntmps63
  go_wp2_with fail
  refine LI.out.mono ?_
  rintro e w1 ⟨m, hm, rfl, hc, hg⟩
  have R1 := Lib.hid (R0.out.chg hg hgl)
  have C1 := Lib.hid hc
  have G1 := Lib.hid (C0.out.trans hg)
  clear hc hg R0 C0 LI
  go_wp2
  go_loopw [3, 4] (fun o i wr => ∃ (j : Nat) (ys : List Int), (j : Int) ≤ m ∧ ys.length + j ≤ 4 ∧ i = .int .i64 j ∧ Hid (Row 3 w.heap.size wr o ys.length (ys.map (fun x => Value.int .i64 x)) ∧ CurT w0 V g wr ∧ Chg g (g + 1) w wr)) (fun _ i _ => (intOf i).toNat)
  case atStart => exact ⟨m.toNat, [], by omega, by simp; omega, by congr 1; omega, Lib.hid ⟨R1.out, C1.out, G1.out⟩⟩
  case round =>
    obtain ⟨j, ys, hj, hys, rfl, HH⟩ := hrel
    by_cases hlt : 0 < j
    · go_wp2_with fail
      refine (SE.out _ HH.out.2.1).mono ?_
      rintro e w2 ⟨r, hr, rfl, hc, hg⟩
      have HROW := Lib.hid (HH.out.1.chg hg (by omega))
      have HC := Lib.hid hc
      have HG := Lib.hid (HH.out.2.2.trans hg)
      clear hc hg
      go_wp2_with (at_builtin; refine wpList_app elI rfl (.tmp 13) (.tmp 16) rfl _ ys.length _ rfl (HROW.out.1.alloc _) (some ⟨w2.heap.size, 0, none⟩) 1 1 [.int .i64 r] rfl (Src_one _ _ _) (one_single _ rfl) (by simp only [maxLen]; omega) (by omega) ?_; intro v3 w3 hown2 hg2 hat2)
      have r2 := HROW.out.app_ (o := .cells #[.int .i64 r] 3) (by have := HG.out.size; omega) hown2 hat2
      have hv : ∀ b, u3.ownBlock = some b → w.heap.size ≤ b := HROW.out.2
      have c2 := HC.out.grow hg2 (fun b hb => by have := hv b hb; omega)
      have g2 := HG.out.grow hg2 hv
      rw [show [Value.int .i64 r] = [r].map (fun x => Value.int .i64 x) from rfl, ← List.map_append] at r2
      have HF := Lib.hid (And.intro r2 (And.intro c2 g2))
      clear r2 c2 g2 hown2 hg2 hat2
      go_roundw
      case rel => exact ⟨j - 1, ys ++ [r], by omega, by simp; omega, by go_num, by simpa using HF⟩
      case measure => simp [intOf]; omega
    · have hj0 : j = 0 := by omega
      subst hj0
      have D := Lib.hid (Row.drewI (xs := ys) HH.out.1 hgl HH.out.2.2 rfl)
      have C := Lib.hid HH.out.2.1
      clear HH
      go_wp2
      go_ret
      exact ⟨_, ys, by omega, rfl, D.out, C.out⟩
end Go.Proofs.Ytokhogdocaeelaa
