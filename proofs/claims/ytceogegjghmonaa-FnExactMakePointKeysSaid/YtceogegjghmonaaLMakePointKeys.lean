/- FnExactMakePointKeys, for every argument, no condition: the program's MakePointKeys returns what the reference's returns, in memory of its own. -/
import Derived.Test.YtceogegjghmonaaMpkS
import Derived.Test.YtceogegjghmonaaPkMark
import Derived.Test.YtceogegjghmonaaPkLaw
namespace Go.Proofs.Ytceogegjghmonaa.fnExactMakePointKeys
set_option linter.unusedVariables false
open Go.RowKit Go.ChangeShapes Go.WideShapes Go.ChangeAt

theorem ivC {C : TypeId} {w : World} {v : Value} {cs : List Corr} {B : Nat} (h : w.ownsRow 0 C 3 v cs.length (cellsC cs)) (hg : ∀ q, v.ownBlock = some q → B ≤ q) : ∃ lo hi, B ≤ lo ∧ lo ≤ hi ∧ Iv (OwnC C) lo hi w v cs ∧ ((lo = B ∧ hi = B) ∨ (v.ownBlock = some lo ∧ hi = lo + 1 ∧ lo < w.heap.size)) := by
  cases hq : v.ownBlock with
  | none => exact ⟨B, B, Nat.le_refl _, Nat.le_refl _, ⟨[], ⟨h, by rw [hq]; rfl⟩, by simp, by simp⟩, .inl ⟨rfl, rfl⟩⟩
  | some q => exact ⟨q, q + 1, hg q hq, by omega, ⟨[q], ⟨h, by rw [hq]; rfl⟩, by simp, by simp⟩, .inr ⟨rfl, rfl, (h.lt q hq).2⟩⟩
/-- The program's two keys in boxes: the first at g, the second at g + 1, their rows in intervals of their own. -/
structure GAt (g lo1 hi1 lo2 hi2 : Nat) (r1 b1 r2 b2 : Int) (v1 v2 : Value) (x1 x2 : List Corr) (W : World) : Prop where
  p1 : Box W g 63 #[.int .i64 r1, .int .i64 b1, v1]
  p2 : Box W (g + 1) 63 #[.int .i64 r2, .int .i64 b2, v2]
  i1 : Iv (OwnC 116) lo1 hi1 W v1 x1
  i2 : Iv (OwnC 116) lo2 hi2 W v2 x2
theorem GAt.below {g lo1 hi1 lo2 hi2 : Nat} {r1 b1 r2 b2 : Int} {v1 v2 : Value} {x1 x2 : List Corr} {W W' : World} (h : GAt g lo1 hi1 lo2 hi2 r1 b1 r2 b2 v1 v2 x1 x2 W) (hb : Below W.heap.size W W') : GAt g lo1 hi1 lo2 hi2 r1 b1 r2 b2 v1 v2 x1 x2 W' :=
  ⟨h.p1.below hb h.p1.lt, h.p2.below hb h.p2.lt, h.i1.below OwnC_good hb, h.i2.below OwnC_good hb⟩
theorem GAt.m1 {g lo1 hi1 lo2 hi2 : Nat} {r1 b1 r2 b2 : Int} {v1 v2 : Value} {x1 x2 y1 : List Corr} {W W' : World} (h : GAt g lo1 hi1 lo2 hi2 r1 b1 r2 b2 v1 v2 x1 x2 W) (hc : Chg lo1 hi1 W W') (hi : Iv (OwnC 116) lo1 hi1 W' v1 y1) (hg : hi1 ≤ g) (hd : hi1 ≤ lo2 ∨ hi2 ≤ lo1) : GAt g lo1 hi1 lo2 hi2 r1 b1 r2 b2 v1 v2 y1 x2 W' :=
  ⟨(hc.block g h.p1.lt (by omega)).trans h.p1, (hc.block (g + 1) h.p2.lt (by omega)).trans h.p2, hi, h.i2.chg OwnC_good hc (by omega)⟩
theorem GAt.m2 {g lo1 hi1 lo2 hi2 : Nat} {r1 b1 r2 b2 : Int} {v1 v2 : Value} {x1 x2 y2 : List Corr} {W W' : World} (h : GAt g lo1 hi1 lo2 hi2 r1 b1 r2 b2 v1 v2 x1 x2 W) (hc : Chg lo2 hi2 W W') (hi : Iv (OwnC 116) lo2 hi2 W' v2 y2) (hg : hi2 ≤ g) (hd : hi1 ≤ lo2 ∨ hi2 ≤ lo1) : GAt g lo1 hi1 lo2 hi2 r1 b1 r2 b2 v1 v2 x1 y2 W' :=
  ⟨(hc.block g h.p1.lt (by omega)).trans h.p1, (hc.block (g + 1) h.p2.lt (by omega)).trans h.p2, h.i1.chg OwnC_good hc (by omega), hi⟩
theorem GAt.cells {g lo1 hi1 lo2 hi2 : Nat} {r1 b1 r2 b2 : Int} {v1 v2 : Value} {x1 x2 : List Corr} {W : World} (h : GAt g lo1 hi1 lo2 hi2 r1 b1 r2 b2 v1 v2 x1 x2 W) : (W.cell? ⟨g, 0, none⟩ = some (.int .i64 r1) ∧ W.cell? ⟨g, 1, none⟩ = some (.int .i64 b1) ∧ W.cell? ⟨g, 2, none⟩ = some v1) ∧ (W.cell? ⟨g + 1, 0, none⟩ = some (.int .i64 r2) ∧ W.cell? ⟨g + 1, 1, none⟩ = some (.int .i64 b2) ∧ W.cell? ⟨g + 1, 2, none⟩ = some v2) :=
  ⟨⟨h.p1.cell 0, h.p1.cell 1, h.p1.cell 2⟩, h.p2.cell 0, h.p2.cell 1, h.p2.cell 2⟩
/-- Two keys just returned and boxed. -/
theorem mk_two {w w1 : World} {r1 b1 r2 b2 : Int} {cs : List Corr} {v1 v2 : Value} (o1 : w1.ownsRow 0 116 3 v1 cs.length (cellsC cs)) (o2 : w1.ownsRow 0 116 3 v2 cs.length (cellsC cs)) (g1 : ∀ q, v1.ownBlock = some q → w.heap.size ≤ q) (g2 : ∀ q, v2.ownBlock = some q → w.heap.size ≤ q)
    (ne : ∀ q, v1.ownBlock = some q → v2.ownBlock = some q → False) (bM : Below w.heap.size w w1) :
    ∃ lo1 hi1 lo2 hi2, GAt w1.heap.size lo1 hi1 lo2 hi2 r1 b1 r2 b2 v1 v2 cs cs ((w1.alloc (.cells #[.int .i64 r1, .int .i64 b1, v1] 63)).alloc (.cells #[.int .i64 r2, .int .i64 b2, v2] 63)) ∧ w.heap.size ≤ lo1 ∧ w.heap.size ≤ lo2 ∧ hi1 ≤ w1.heap.size ∧ hi2 ≤ w1.heap.size ∧ (hi1 ≤ lo2 ∨ hi2 ≤ lo1) ∧
      Below w.heap.size w ((w1.alloc (.cells #[.int .i64 r1, .int .i64 b1, v1] 63)).alloc (.cells #[.int .i64 r2, .int .i64 b2, v2] 63)) := by
  obtain ⟨lo1, hi1, a1, a2, a3, a4⟩ := ivC o1 g1
  obtain ⟨lo2, hi2, c1, c2, c3, c4⟩ := ivC o2 g2
  obtain ⟨k1, k2, T, _⟩ := boxes2 w1 63 #[.int .i64 r1, .int .i64 b1, v1] 63 #[.int .i64 r2, .int .i64 b2, v2]
  have hs := bM.size
  refine ⟨lo1, hi1, lo2, hi2, ⟨k1, k2, a3.below OwnC_good T, c3.below OwnC_good T⟩, a1, c1, by rcases a4 with h | h <;> omega, by rcases c4 with h | h <;> omega, ?_, bM.trans (T.mono hs)⟩
  rcases a4 with ⟨h1, h2⟩ | ⟨h1, h2, h3⟩
  · left; omega
  · rcases c4 with ⟨k1, k2⟩ | ⟨k1, k2, k3⟩
    · right; omega
    · have : lo1 ≠ lo2 := fun e => ne lo1 h1 (e ▸ k1)
      omega

set_option maxHeartbeats 1000000 in
set_option maxRecDepth 100000 in
theorem walk (w : World) (a0 : Int) (w0 : (Lit.int .i64 a0).wf = true) (a1 : Int) (w1 : (Lit.int .i64 a1).wf = true) (a2 : Int) (w2 : (Lit.int .i64 a2).wf = true) (a3 : Int) (w3 : (Lit.int .i64 a3).wf = true) :
    Calls Try.prog 9 #[.int .i64 a0, .int .i64 a1, .int .i64 a2, .int .i64 a3] w fun e w' => e = .returned (.bool true) ∧ Below w.heap.size w w' := by
  clear w0 w1 w2 w3
  obtain ⟨r1, b1, r2, b2, cs, ok, SP, IM, hcl⟩ := mpk_both a0 a1 a2 a3
  go_enter Try.func9, Try.ntmps9
  go_wp2_with fail
  refine (SP.out _).mono ?_
  rintro e w1 ⟨A1, l1, c1, A2, l2, c2, rfl, o1, o2, ga, gb, ne, bM⟩
  obtain ⟨lo1, hi1, lo2, hi2, GS, _, _, _, _, _, T1⟩ := mk_two (r1 := r1) (b1 := b1) (r2 := r2) (b2 := b2) o1 o2 ga gb ne bM
  have HS := Lib.hid GS
  clear o1 o2 ga gb ne bM GS
  go_wp2_with fail
  generalize hW1 : ((w1.alloc (.cells #[.int .i64 r1, .int .i64 b1, .slice A1 l1 c1] 63)).alloc (.cells #[.int .i64 r2, .int .i64 b2, .slice A2 l2 c2] 63)) = W1 at *
  generalize w1.heap.size = gs at *
  clear hW1
  refine (IM.out _).mono ?_
  rintro e w2 ⟨A3, l3, c3, A4, l4, c4, rfl, o1, o2, ga, gb, ne, bM⟩
  obtain ⟨lo3, hi3, lo4, hi4, GG, p1, p2, p3, p4, p5, T2⟩ := mk_two (r1 := r1) (b1 := b1) (r2 := r2) (b2 := b2) o1 o2 ga gb ne bM
  have HG := Lib.hid GG
  clear o1 o2 ga gb ne bM GG
  have hcl0 : (0 : Int) ≤ (cs.length : Int) := by omega
  have hn1 : ¬ (1 + 3 * (cs.length : Int)) < 0 := by omega
  have hn2 : ¬ (1 + 3 * (cs.length : Int) + 3 * (cs.length : Int)) < 0 := by omega
  have SPC : Hid (∀ W, Below W1.heap.size W1 W → GAt gs lo1 hi1 lo2 hi2 r1 b1 r2 b2 (.slice A1 l1 c1) (.slice A2 l2 c2) cs cs W) := Lib.hid (fun W hW => HS.out.below hW)
  have kc := (SPC.out _ T2).cells
  have kg := HG.out.cells
  have tL := T2
  go_wp2_with fail
  generalize hW2 : ((w2.alloc (.cells #[.int .i64 r1, .int .i64 b1, .slice A3 l3 c3] 63)).alloc (.cells #[.int .i64 r2, .int .i64 b2, .slice A4 l4 c4] 63)) = W2 at *
  generalize w2.heap.size = gi at *
  clear hW2 T2
  refine (eq_pk r1 b1 _ _ cs _ (rd_pk HG.out.i1) (rd_pk (SPC.out _ tL).i1)).mono ?_
  rintro e wa ⟨rfl, ba⟩
  have HG := Lib.hid (HG.out.below ba)
  have tL := tL.trans (ba.mono tL.size)
  have kc := (SPC.out _ tL).cells
  have kg := HG.out.cells
  clear ba
  go_wp2_with fail
  refine (eq_pk r2 b2 _ _ cs _ (rd_pk HG.out.i2) (rd_pk (SPC.out _ tL).i2)).mono ?_
  rintro e wa ⟨rfl, ba⟩
  have HG := Lib.hid (HG.out.below ba)
  have tL := tL.trans (ba.mono tL.size)
  have kc := (SPC.out _ tL).cells
  have kg := HG.out.cells
  clear ba
  go_wp2_with fail
  refine (mark_pk lo3 hi3 r1 b1 _ cs 1 _ HG.out.i1 (by omega) (by omega)).mono ?_
  rintro e wa ⟨rfl, ia, ba⟩
  have HG := Lib.hid (HG.out.m1 ba ia p3 p5)
  have tL := tL.trans (ba.below p1 tL.size)
  have kc := (SPC.out _ tL).cells
  have kg := HG.out.cells
  clear ba ia
  go_wp2_with fail
  refine (mark_pk lo4 hi4 r2 b2 _ cs (1 + 3 * (cs.length : Int)) _ HG.out.i2 (by omega) (by omega)).mono ?_
  rintro e wa ⟨rfl, ia, ba⟩
  have HG := Lib.hid (HG.out.m2 ba ia p4 p5)
  have tL := tL.trans (ba.below p2 tL.size)
  have kc := (SPC.out _ tL).cells
  have kg := HG.out.cells
  clear ba ia
  go_wp2_with fail
  refine (held_pk r1 b1 _ cs 1 _ (rd_pk HG.out.i1) (by omega) (by omega)).mono ?_
  rintro e wa ⟨rfl, ba⟩
  have HG := Lib.hid (HG.out.below ba)
  have tL := tL.trans (ba.mono tL.size)
  have kc := (SPC.out _ tL).cells
  have kg := HG.out.cells
  clear ba
  go_wp2_with fail
  refine (held_pk r2 b2 _ cs (1 + 3 * (cs.length : Int)) _ (rd_pk HG.out.i2) (by omega) (by omega)).mono ?_
  rintro e wa ⟨rfl, ba⟩
  have HG := Lib.hid (HG.out.below ba)
  have tL := tL.trans (ba.mono tL.size)
  have kc := (SPC.out _ tL).cells
  have kg := HG.out.cells
  clear ba
  go_wp2_with fail
  refine (IM.out _).mono ?_
  rintro e w5 ⟨A5, l5, c5, A6, l6, c6, rfl, o1, o2, ga, gb, ne, bM⟩
  obtain ⟨lo5, hi5, lo6, hi6, GH, _, _, _, _, _, T5⟩ := mk_two (r1 := r1) (b1 := b1) (r2 := r2) (b2 := b2) o1 o2 ga gb ne bM
  have HH := Lib.hid GH
  have HG := Lib.hid (HG.out.below T5)
  have tL := tL.trans (T5.mono tL.size)
  clear o1 o2 ga gb ne bM GH T5
  have kc := (SPC.out _ tL).cells
  have kg := HG.out.cells
  have kh := HH.out.cells
  go_wp2_with fail
  generalize hW5 : ((w5.alloc (.cells #[.int .i64 r1, .int .i64 b1, .slice A5 l5 c5] 63)).alloc (.cells #[.int .i64 r2, .int .i64 b2, .slice A6 l6 c6] 63)) = W5 at *
  generalize w5.heap.size = gh at *
  clear hW5
  refine (eq_pk r1 b1 _ _ cs _ (rd_pk HH.out.i1) (rd_pk (SPC.out _ tL).i1)).mono ?_
  rintro e wa ⟨rfl, ba⟩
  have HG := Lib.hid (HG.out.below ba)
  have HH := Lib.hid (HH.out.below ba)
  have tL := tL.trans (ba.mono tL.size)
  have kc := (SPC.out _ tL).cells
  have kg := HG.out.cells
  have kh := HH.out.cells
  clear ba
  go_wp2_with fail
  refine (eq_pk r2 b2 _ _ cs _ (rd_pk HH.out.i2) (rd_pk (SPC.out _ tL).i2)).mono ?_
  rintro e wa ⟨rfl, ba⟩
  have HG := Lib.hid (HG.out.below ba)
  have HH := Lib.hid (HH.out.below ba)
  have tL := tL.trans (ba.mono tL.size)
  have kc := (SPC.out _ tL).cells
  have kg := HG.out.cells
  have kh := HH.out.cells
  clear ba
  go_wp2_with fail
  refine (held_pk r1 b1 _ cs 1 _ (rd_pk HG.out.i1) (by omega) (by omega)).mono ?_
  rintro e wa ⟨rfl, ba⟩
  have HG := Lib.hid (HG.out.below ba)
  have HH := Lib.hid (HH.out.below ba)
  have tL := tL.trans (ba.mono tL.size)
  have kc := (SPC.out _ tL).cells
  have kg := HG.out.cells
  have kh := HH.out.cells
  clear ba
  go_wp2_with fail
  refine (held_pk r2 b2 _ cs (1 + 3 * (cs.length : Int)) _ (rd_pk HG.out.i2) (by omega) (by omega)).mono ?_
  rintro e wa ⟨rfl, ba⟩
  have HG := Lib.hid (HG.out.below ba)
  have HH := Lib.hid (HH.out.below ba)
  have tL := tL.trans (ba.mono tL.size)
  have kc := (SPC.out _ tL).cells
  have kg := HG.out.cells
  have kh := HH.out.cells
  clear ba
  go_wp2
  go_ret
  exact ⟨rfl, T1.trans (tL.mono T1.size)⟩
set_option maxRecDepth 100000 in
theorem lifted (os : Os) (started : os.Started) (H : Type) (enc : TypeId × Value → H) :
    ReturnsInHanded {} Try.checked os 9 .any (Rows.fnExactMakePointKeysSpec.pre6 enc Try.prog Try.f9 Rows.fnExactMakePointKeysRow.domain false) (Rows.fnExactMakePointKeysSpec.post enc Try.prog Try.f9 false true false false) := by
  refine returnsInHanded_of_change (C := Try.checked) own_ started (by kernel_rfl) Try.func9
    (ChangeSpec.witness6 (enc := enc) (C := Try.checked) false ⟨#[], #[.int .i64 0, .int .i64 0, .int .i64 0, .int .i64 0], []⟩ 8 (by kernel_rfl) (by kernel_rfl) (by kernel_rfl) (by kernel_rfl)) ?_
  intro W base args ds gs before hval0 hW hcnd _
  have hval : ∀ (j : Nat) t v, Try.f9.params[j]? = some t → args[j]? = some v → Value.okWide Try.prog W .any base t v := hval0
  have hW' := hW
  obtain ⟨p, q, hA0, hV, rfl, hfz, hnd⟩ := hW
  have hA : DataW.TrodAll enc Try.prog W 0 (fun _ => true) true Try.f9.params.toList args.toList ds p := hA0
  rw [Try.params9] at hA hval
  obtain ⟨v0, vs0, d0, ds0, p0, q0, hargs, rfl, rfl, h0, r0⟩ := trodAll_cons hA
  obtain ⟨v1, vs1, d1, ds1, p1, q1, rfl, rfl, rfl, h1, r1⟩ := trodAll_cons r0
  obtain ⟨v2, vs2, d2, ds2, p2, q2, rfl, rfl, rfl, h2, r2⟩ := trodAll_cons r1
  obtain ⟨v3, vs3, d3, ds3, p3, q3, rfl, rfl, rfl, h3, r3⟩ := trodAll_cons r2
  obtain ⟨rfl, rfl, rfl⟩ := trodAll_nil r3
  obtain rfl : args = #[v0, v1, v2, v3] := by cases args; simp_all
  obtain ⟨rfl, rfl⟩ := trodVars_none hV
  obtain ⟨a0, rfl, rfl, rfl, w0⟩ := open_int Try.underlying3 (hval 0 3 v0 rfl rfl) h0
  obtain ⟨a1, rfl, rfl, rfl, w1⟩ := open_int Try.underlying3 (hval 1 3 v1 rfl rfl) h1
  obtain ⟨a2, rfl, rfl, rfl, w2⟩ := open_int Try.underlying3 (hval 2 3 v2 rfl rfl) h2
  obtain ⟨a3, rfl, rfl, rfl, w3⟩ := open_int Try.underlying3 (hval 3 3 v3 rfl rfl) h3
  clear hA0 hval0
  refine (walk W a0 w0 a1 w1 a2 w2 a3 w3).mono fun e W' ⟨he, bel⟩ => ?_
  subst he
  exact ⟨_, rfl, _, _, _, [], _, [], hW', trodAll_mk1 (shut_bool Try.underlying4 _), (trodAll_cons_mk (shut_int Try.underlying3 w0) (trodAll_cons_mk (shut_int Try.underlying3 w1) (trodAll_cons_mk (shut_int Try.underlying3 w2) (trodAll_cons_mk (shut_int Try.underlying3 w3) trodAll_mk0)))), rfl, bel.frame _, fun h => by cases h⟩

theorem over : Rows.fnExactMakePointKeysRow.holds Try.pinned (OpenSpec.ofChange Rows.fnExactMakePointKeysSpec) :=
  OpenClaim.holds_of_wide 9 Try.f9 rfl rfl rfl rfl rfl rfl rfl ⟨rfl, rfl, rfl, rfl, rfl⟩ rfl rfl rfl rfl rfl (by kernel_rfl) Try.func9 (by kernel_rfl)
    (of_decide_eq_true (by kernel_rfl)) (by unfold Func.isWrapper; first | (rw [if_pos (by decide +kernel)]; kernel_rfl) | (rw [if_neg (by decide +kernel)]; exact ⟨rfl, rfl⟩))
    (fun os started H enc _ => lifted os started H enc)

theorem proved : Rows.FnExactMakePointKeysSaid := over
end Go.Proofs.Ytceogegjghmonaa.fnExactMakePointKeys
