/- The drawing functions: a byte, a number below a bound, an element, bytes. -/
import Derived.Test.YtokhogdocaeelaaCur
import Derived.Test.YtokhogdocaeelaaStream
namespace Go.Proofs.Ytokhogdocaeelaa
set_option linter.unusedVariables false
open Go.RowKit

theorem i64_and255 (n : Int) : bits .and .i64 n 255 = n % 256 := by
  have h1 : (BitVec.ofInt 64 255).toNat = 2 ^ 8 - 1 := by decide
  have key : (BitVec.ofInt 64 n &&& BitVec.ofInt 64 255).toNat = (n % ((2 ^ 64 : Nat) : Int)).toNat % 2 ^ 8 := by
    rw [BitVec.toNat_and, BitVec.toNat_ofInt, h1, Nat.and_two_pow_sub_one_eq_mod]
  show IntKind.i64.wrap ((BitVec.ofInt 64 n &&& BitVec.ofInt 64 255).toNat : Nat) = n % 256
  rw [key, IntKind.wrap_i64]
  omega
abbrev CurT (w0 : World) (V : Value) (g : Nat) (w : World) : Prop := Cur 101 w0 V g w
/-- A number between two bounds was drawn. -/
def DrewN (lo hi : Int) (w0 : World) (V : Value) (g : Nat) (w : World) (e : Ending) (w' : World) : Prop := ∃ r : Int, (lo ≤ r ∧ r ≤ hi) ∧ e = .returned (.int .i64 r) ∧ CurT w0 V g w' ∧ Chg g (g + 1) w w'

theorem low255 (a : Int) : 0 ≤ a % 256 ∧ a % 256 ≤ 255 := by omega
set_option maxHeartbeats 1000000 in
theorem byte_c (V : Value) (xs : List UInt8) (g : Nat) (w0 w : World) (hx : Rd RB w0 V xs) (hn : xs.length ≤ 1048576) (h : CurT w0 V g w) :
    Calls Try.prog 104 #[.pointer (some ⟨g, 0, none⟩)] w (DrewN 0 255 w0 V g w) := by
  obtain ⟨A, n, c, rfl, hx'⟩ := hx
  obtain ⟨i, h, B, hi0, hi1, hb, hg⟩ := h
  obtain rfl := hx'.1
  obtain ⟨k, rfl⟩ := Int.eq_ofNat_of_zero_le hi0
  have c0 := B.cell 0
  have c1 := B.cell 1
  have c2 := B.cell 2
  have f2 := B.frozen 2
  simp at c0 c1 c2
  have BH := Lib.hid B
  have hgl := B.lt
  clear B
  have st : ∀ z : Value, Box (w.setCell ⟨g, 2, none⟩ z) g 101 #[.slice A xs.length c, .int .i64 k, z] := fun z => BH.out.set_ 2 z
  have ch : ∀ z : Value, Chg g (g + 1) w (w.setCell ⟨g, 2, none⟩ z) := fun z => (Chg.refl _ _ w).setCell (p := ⟨g, 2, none⟩) (Nat.le_refl _) (show g < g + 1 by omega) z
  by_cases hlt : k < xs.length
  · obtain ⟨b, off, x, u, rfl, hbb, hxk, hu, hr⟩ := hx'.at_ hlt
    unfold RB at hr
    subst hr
    have g1 := (hb.cell (p := ⟨b, off + k, none⟩) hbb).trans hu
    have hxb := x.toNat_lt
    have ST := Lib.hid st
    have CH := Lib.hid ch
    have HBB := Lib.hid hb
    have HG := Lib.hid hg
    have hk0 : (0 : Int) ≤ (k : Int) := by omega
    have hkn : (k : Int) < (xs.length : Int) := by omega
    have hne : ∀ z, (w.setCell ⟨g, 2, none⟩ z).cell? ⟨b, off + k, none⟩ = some (.int .u8 (x.toNat : Int)) := fun z => by
      rw [← g1]
      refine (Chg.below (ch z) (Nat.le_refl _) (by omega)).cell (p := ⟨b, off + k, none⟩) ?_
      show b < g
      omega
    have HNE := Lib.hid hne
    clear hu hxk st ch hb hg hne g1 hx'
    go_enter Try.func104, Try.ntmps104
    go_wp2
    generalize (wrap64 (wrap64 (h * 6364136223846793005) + 1442695040888963407)) = z at *
    have B1 := Lib.hid (ST.out (.int .i64 z))
    have C1 := Lib.hid (CH.out (.int .i64 z))
    have e1 := HNE.out (.int .i64 z)
    generalize w.setCell ⟨g, 2, none⟩ (.int .i64 z) = w1 at *
    have d0 := B1.out.cell 0
    have d1 := B1.out.cell 1
    have d2 := B1.out.cell 2
    have q1 := B1.out.frozen 1
    simp at d0 d1 d2
    clear c0 c1 c2 f2 ST CH HNE BH
    go_quiet (fail)
    rw [i64_and255]
    have hr := low255 (bits .xor .i64 (z / 8589934592) (z / 140737488355328))
    generalize bits .xor .i64 (z / 8589934592) (z / 140737488355328) % 256 = r at *
    go_wp2
    go_quiet (fail)
    go_wp2
    go_quiet (fail)
    rw [i64_and255]
    have hr2 := low255 (r + (x.toNat : Int))
    generalize (r + (x.toNat : Int)) % 256 = r2 at *
    go_wp2
    go_ret
    have fin : ∀ (W : World) (m : Int), Chg g (g + 1) w W → Box W g 101 #[.slice (some ⟨b, off, none⟩) xs.length c, .int .i64 k, .int .i64 z] → CurT w0 (.slice (some ⟨b, off, none⟩) xs.length c) g (W.setCell ⟨g, 1, none⟩ (.int .i64 (k + 1))) ∧ Chg g (g + 1) w (W.setCell ⟨g, 1, none⟩ (.int .i64 (k + 1))) := fun W m hc hbx => by
      have c2 := hc.setCell (p := ⟨g, 1, none⟩) (Nat.le_refl _) (show g < g + 1 by omega) (.int .i64 ((k : Int) + 1))
      exact ⟨⟨(k : Int) + 1, z, hbx.set_ 1 _, by omega, by omega, HBB.out.trans (c2.below HG.out (by have := HG.out; omega)), HG.out⟩, c2⟩
    exact ⟨r2, hr2, rfl, (fin _ 0 (C1.out.drewN _) B1.out).1, (fin _ 0 (C1.out.drewN _) B1.out).2⟩
  · have hkn : ¬ (k : Int) < (xs.length : Int) := by omega
    have ST := Lib.hid st
    have CH := Lib.hid ch
    have HBB := Lib.hid hb
    have HG := Lib.hid hg
    clear st ch hb hg hx'
    go_enter Try.func104, Try.ntmps104
    go_wp2
    generalize (wrap64 (wrap64 (h * 6364136223846793005) + 1442695040888963407)) = z at *
    have B1 := Lib.hid (ST.out (.int .i64 z))
    have C1 := Lib.hid (CH.out (.int .i64 z))
    generalize w.setCell ⟨g, 2, none⟩ (.int .i64 z) = w1 at *
    have d0 := B1.out.cell 0
    have d1 := B1.out.cell 1
    have d2 := B1.out.cell 2
    simp at d0 d1 d2
    clear c0 c1 c2 f2 ST CH BH
    go_quiet (fail)
    rw [i64_and255]
    have hr := low255 (bits .xor .i64 (z / 8589934592) (z / 140737488355328))
    generalize bits .xor .i64 (z / 8589934592) (z / 140737488355328) % 256 = r at *
    go_wp2
    go_quiet (fail)
    go_wp2
    go_ret
    have fin : ∀ W : World, Chg g (g + 1) w W → Box W g 101 #[.slice A xs.length c, .int .i64 k, .int .i64 z] → CurT w0 (.slice A xs.length c) g W ∧ Chg g (g + 1) w W := fun W hc hbx => ⟨⟨k, z, hbx, by omega, by omega, HBB.out.trans (hc.below HG.out (by have := HG.out; omega)), HG.out⟩, hc⟩
    exact ⟨r, hr, rfl, (fin _ ((C1.out.drewN _).drewN _) B1.out).1, (fin _ ((C1.out.drewN _).drewN _) B1.out).2⟩

set_option maxHeartbeats 1000000 in
theorem belowN_c (V : Value) (xs : List UInt8) (g : Nat) (n : Int) (w0 w : World) (hx : Rd RB w0 V xs) (hn : xs.length ≤ 1048576) (h1 : 1 ≤ n) (h2 : n ≤ 1000000) (h : CurT w0 V g w) :
    Calls Try.prog 61 #[.pointer (some ⟨g, 0, none⟩), .int .i64 n] w (DrewN 0 (n - 1) w0 V g w) := by
  have BY : Hid (∀ W, CurT w0 V g W → Calls Try.prog 104 #[.pointer (some ⟨g, 0, none⟩)] W (DrewN 0 255 w0 V g W)) := Lib.hid (fun W hW => byte_c V xs g w0 W hx hn hW)
  have H := Lib.hid h
  have h1' : ¬ n ≤ 0 := by omega
  have md : ∀ a : Int, 0 ≤ a → 0 ≤ a % n ∧ a % n ≤ n - 1 := fun a _ => by
    have := Int.emod_nonneg a (show n ≠ 0 by omega)
    have := Int.emod_lt_of_pos a (show 0 < n by omega)
    omega
  have MD := Lib.hid md
  clear h md hx
  by_cases hs : n ≤ 256
  · go_enter Try.func61, Try.ntmps61
    go_wp2_with fail
    refine (BY.out _ H.out).mono ?_
    rintro e w1 ⟨r, hr, rfl, hc, hg⟩
    have HC := Lib.hid hc
    have HG := Lib.hid hg
    clear hc hg
    have hm := MD.out r hr.1
    go_wp2
    go_ret
    exact ⟨r % n, hm, rfl, HC.out, HG.out⟩
  · go_enter Try.func61, Try.ntmps61
    go_wp2_with fail
    refine (BY.out _ H.out).mono ?_
    rintro e w1 ⟨r1, hr1, rfl, hc, hg⟩
    have HC1 := Lib.hid hc
    have HG1 := Lib.hid hg
    clear hc hg
    go_wp2_with fail
    refine (BY.out _ HC1.out).mono ?_
    rintro e w2 ⟨r2, hr2, rfl, hc, hg⟩
    have HC2 := Lib.hid hc
    have HG2 := Lib.hid hg
    clear hc hg
    go_wp2_with fail
    refine (BY.out _ HC2.out).mono ?_
    rintro e w3 ⟨r3, hr3, rfl, hc, hg⟩
    have HC3 := Lib.hid hc
    have HG3 := Lib.hid hg
    clear hc hg
    have hm := MD.out (r1 * 65536 + r2 * 256 + r3) (by omega)
    go_wp2
    go_ret
    exact ⟨_, hm, rfl, HC3.out, (HG1.out.trans HG2.out).trans HG3.out⟩
theorem belowZ_c (V : Value) (g : Nat) (n : Int) (w0 w : World) (h1 : n ≤ 0) (h : CurT w0 V g w) :
    Calls Try.prog 61 #[.pointer (some ⟨g, 0, none⟩), .int .i64 n] w (DrewN 0 0 w0 V g w) := by
  have H := Lib.hid h
  clear h
  go_enter Try.func61, Try.ntmps61
  go_wp2
  go_ret
  exact ⟨0, by omega, rfl, H.out, Chg.refl _ _ _⟩
/-- A coin. -/
def DrewB (w0 : World) (V : Value) (g : Nat) (w : World) (e : Ending) (w' : World) : Prop := ∃ b : Bool, e = .returned (.bool b) ∧ CurT w0 V g w' ∧ Chg g (g + 1) w w'
theorem once_c (V : Value) (xs : List UInt8) (g : Nat) (n : Int) (w0 w : World) (hx : Rd RB w0 V xs) (hn : xs.length ≤ 1048576) (h1 : 1 ≤ n) (h2 : n ≤ 1000000) (h : CurT w0 V g w) :
    Calls Try.prog 127 #[.pointer (some ⟨g, 0, none⟩), .int .i64 n] w (DrewB w0 V g w) := by
  have BN := Lib.hid (belowN_c V xs g n w0 w hx hn h1 h2 h)
  clear hx h
  go_enter Try.func127, Try.ntmps127
  go_wp2_with fail
  refine BN.out.mono ?_
  rintro e w1 ⟨r, hr, rfl, hc, hg⟩
  have HC := Lib.hid hc
  have HG := Lib.hid hg
  clear hc hg
  go_wp2
  go_ret
  exact ⟨_, rfl, HC.out, HG.out⟩
set_option maxHeartbeats 1000000 in
/-- An element of a short list that is read in the world at hand. -/
theorem lint_c (V : Value) (xs : List UInt8) (g : Nat) (ys : List Int) (lo hi : Int) (w0 w : World) (b off m c : Nat) (hx : Rd RB w0 V xs) (hn : xs.length ≤ 1048576) (h : CurT w0 V g w) (hy : Rd RI w (.slice (some ⟨b, off, none⟩) m c) ys) (hbg : b ≠ g) (h1 : 1 ≤ m) (h2 : m ≤ 100) (hlo : ∀ y ∈ ys, lo ≤ y ∧ y ≤ hi) :
    Calls Try.prog 60 #[.pointer (some ⟨g, 0, none⟩), .slice (some ⟨b, off, none⟩) m c] w (DrewN lo hi w0 V g w) := by
  have BN := Lib.hid (belowN_c V xs g (m : Int) w0 w hx hn (by omega) (by omega) h)
  have HY := Lib.hid hy
  have HL := Lib.hid hlo
  have HB := Lib.hid hbg
  clear hx h hy hlo hbg
  go_enter Try.func60, Try.ntmps60
  go_wp2_with fail
  refine BN.out.mono ?_
  rintro e w1 ⟨r, hr, rfl, hc, hg⟩
  obtain ⟨k, rfl⟩ := Int.eq_ofNat_of_zero_le hr.1
  obtain ⟨A', n', c', e', hy'⟩ := HY.out
  injection e' with e1 e2 e3
  subst e1 e2 e3
  obtain ⟨b', off', x, u, e4, hbb, hxk, hu, hr'⟩ := hy'.at_ (show k < m by omega)
  injection e4 with e4
  injection e4 with e5 e6
  subst e5 e6
  unfold RI at hr'
  subst hr'
  have hu1 : w1.cell? ⟨b, off + k, none⟩ = some (.int .i64 x) := by
    rw [← hu]
    unfold World.cell?
    rw [hg.block b hbb (fun q => HB.out (by omega))]
  have hxx := HL.out x (List.mem_of_getElem? hxk)
  have HC := Lib.hid hc
  have HG := Lib.hid hg
  have hk0 : (0 : Int) ≤ (k : Int) := by omega
  have hkn : (k : Int) < (m : Int) := by omega
  clear hc hg hu hxk hy'
  go_wp2
  go_ret
  exact ⟨x, hxx, rfl, HC.out, HG.out⟩
set_option maxHeartbeats 2000000 in
set_option maxRecDepth 100000 in
theorem bytes_c (V : Value) (xs : List UInt8) (g : Nat) (n : Nat) (w0 w : World) (hx : Rd RB w0 V xs) (hn : xs.length ≤ 1048576) (h2 : n ≤ 1000000) (h : CurT w0 V g w) :
    Calls Try.prog 105 #[.pointer (some ⟨g, 0, none⟩), .int .i64 (n : Int)] w fun e w' => ∃ v' ys, ys.length = n ∧ e = .returned v' ∧ Drew (Own 5 FB) g w w' v' ys ∧ CurT w0 V g w' := by
  have BY : Hid (∀ W, CurT w0 V g W → Calls Try.prog 104 #[.pointer (some ⟨g, 0, none⟩)] W (DrewN 0 255 w0 V g W)) := Lib.hid (fun W hW => byte_c V xs g w0 W hx hn hW)
  have hgl := h.lt
  have H := Lib.hid h
  clear h hx
  go_enter Try.func105, Try.ntmps105
  go_wp2
  go_loopw [5, 6] (fun o i wr => ∃ (j : Nat) (ys : List UInt8), j ≤ n ∧ ys.length = j ∧ i = .int .i64 j ∧ Hid (Row 5 w.heap.size wr o j (ys.map (fun x => Value.int .u8 (x.toNat : Int))) ∧ CurT w0 V g wr ∧ Chg g (g + 1) w wr)) (fun _ i _ => n - (intOf i).toNat)
  case atStart => exact ⟨0, [], Nat.zero_le _, rfl, rfl, Lib.hid ⟨Row_lit w #[] (Nat.le_refl _) (by simp), H.out.step (below_alloc w _), Chg.of_below (below_alloc w _)⟩⟩
  case round =>
    obtain ⟨j, ys, hj, hys, rfl, HH⟩ := hrel
    have HYS := Lib.hid hys
    clear hys
    by_cases hlt : j < n
    · go_wp2_with fail
      refine (BY.out _ HH.out.2.1).mono ?_
      rintro e w1 ⟨r, hr, rfl, hc, hg⟩
      have hrow := HH.out.1.chg hg (by omega)
      have HC := Lib.hid hc
      have hG := HH.out.2.2.trans hg
      have HG := Lib.hid hG
      have HROW := Lib.hid hrow
      clear hc hg hrow hG
      go_wp2_with (at_builtin; refine wpList_app elB rfl (.tmp 13) (.tmp 17) rfl _ j _ rfl (HROW.out.1.alloc _) (some ⟨w1.heap.size, 0, none⟩) 1 1 [.int .u8 r] rfl (Src_one _ _ _) (one_single _ rfl) (by simp only [maxLen]; omega) (by omega) ?_; intro v2 w2 hown2 hg2 hat2)
      have r2 := HROW.out.app_ (o := .cells #[.int .u8 r] 5) (by have := HG.out.size; omega) hown2 hat2
      have hv : ∀ b, u5.ownBlock = some b → w.heap.size ≤ b := HROW.out.2
      have c2 := HC.out.grow hg2 (fun b hb => by have := hv b hb; omega)
      have g2 := HG.out.grow hg2 hv
      rw [show [Value.int .u8 r] = [UInt8.ofNat r.toNat].map (fun x => Value.int .u8 (x.toNat : Int)) by simp only [List.map_cons, List.map_nil, u8_of r hr], ← List.map_append] at r2
      have HF := Lib.hid (And.intro r2 (And.intro c2 g2))
      clear r2 c2 g2 hown2 hg2 hat2
      go_roundw
      case rel => exact ⟨j + 1, ys ++ [UInt8.ofNat r.toNat], by omega, by rw [List.length_append, HYS.out]; rfl, by go_num, HF⟩
      case measure => simp [intOf]; omega
    · have hjn : j = n := by omega
      subst hjn
      have D := Lib.hid (Row.drewB (xs := ys) HH.out.1 hgl HH.out.2.2 rfl)
      have C := Lib.hid HH.out.2.1
      clear HH
      go_wp2
      go_ret
      exact ⟨_, ys, HYS.out, rfl, D.out, C.out⟩
end Go.Proofs.Ytokhogdocaeelaa
