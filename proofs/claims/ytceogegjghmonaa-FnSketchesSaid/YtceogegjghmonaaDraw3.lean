/- The drawing functions: databases. -/
import Derived.Test.YtceogegjghmonaaDraw2
import Derived.Test.YtceogegjghmonaaDb
import Derived.Test.YtceogegjghmonaaKeep
import Derived.Deep.RegionHeld3
namespace Go.Proofs.Ytceogegjghmonaa
set_option linter.unusedVariables false
open Go.RowKit

theorem Cur.drew {t : TypeId} {w0 w : World} {V : Value} {g : Nat} (h : Cur t w0 V g w) : Cur t w0 V g w.drew := by
  obtain ⟨i, k, b, h0, h1, hw, hg⟩ := h
  exact ⟨i, k, b, h0, h1, hw.drew, hg⟩
theorem Cur.via {t : TypeId} {w0 w3 W : World} {V : Value} {g gd : Nat} (h : Cur t w0 V g w3) (hg : g < gd) (h1 : ∀ g' t' cs', g' < gd → Box w3 g' t' cs' → Box W g' t' cs') (h2 : ∀ B0 W0, B0 ≤ gd → Below B0 W0 w3 → Below B0 W0 W) : Cur t w0 V g W := by
  obtain ⟨i, k, b, i0, i1, hw, hge⟩ := h
  exact ⟨i, k, h1 _ _ _ hg b, i0, i1, h2 _ _ (by omega) hw, hge⟩
theorem Cur.far {t : TypeId} {w0 w : World} {V : Value} {g : Nat} (h : Cur t w0 V g w) {p : Addr} (hp : g ≠ p.block) (hp2 : w0.heap.size ≤ p.block) (u : Value) : Cur t w0 V g (w.setCell p u) := by
  obtain ⟨i, k, b, i0, i1, hw, hge⟩ := h
  exact ⟨i, k, b.far hp u, i0, i1, hw.setCell hp2 u, hge⟩
theorem Chg.low {g : Nat} {w w3 W : World} (h : Chg g (g + 1) w w3) (hb : Below w.heap.size w3 W) : Chg g (g + 1) w W :=
  ⟨hb.os.trans h.os, hb.tape.trans h.tape, hb.output.trans h.output, Nat.le_trans h.size hb.size, fun k hk hn => (hb.block k hk).trans (h.block k hk hn)⟩
theorem Chg.drew_ {lo hi : Nat} {a w : World} (h : Chg lo hi a w) : Chg lo hi a w.drew := ⟨h.os, h.tape, h.output, h.size, h.block⟩
theorem Box.chg {w w' : World} {k g : Nat} {t : TypeId} {cs : Array Value} (h : Box w k t cs) (hc : Chg g (g + 1) w w') (hk : k ≠ g) : Box w' k t cs := (hc.block k h.lt (fun q => hk (by omega))).trans h
/-- What was drawn, seen from a world in which the box alone has turned. -/
theorem Drew.open_ {α : Type} {R : FRel α} {g : Nat} {w w' : World} {v : Value} {x : α} (h : Drew R g w w' v x) : ∃ wm, Chg g (g + 1) w wm ∧ wm.heap.size = w.heap.size ∧ Fresh R wm w' v x := by
  obtain ⟨wm, hm, hf⟩ := h
  exact ⟨wm, hm.1, hm.2, hf⟩
theorem Drew.pre {α : Type} {R : FRel α} {g : Nat} {w0 w w' : World} {v : Value} {x : α} (h : Drew R g w w' v x) (hg : g < w0.heap.size) (hc : Chg g (g + 1) w0 w) : Drew R g w0 w' v x := by
  have hch := hc.trans h.chg
  obtain ⟨wm, hm, F, f1, f2, f3, f4⟩ := h
  have := hc.size
  have := hm.2
  exact Drew_of hg hch f1 f2 (fun b hb => by have := f3 b hb; omega)
/-- A value drawn before: it reads in every later world in which the box alone, and what was made since, may have turned. -/
theorem Drew.rd {α : Type} {R : FRel α} {R' : Rel α} (hR : Good R) (hRR : ∀ {w v x G}, R w v x G → R' w v x) {g : Nat} {w w' w2 : World} {v : Value} {x : α} (h : Drew R g w w' v x) (hg : g < w.heap.size) (hc : Chg g (g + 1) w' w2) : R' w2 v x := by
  obtain ⟨wm, hm, F, f1, f2, f3, f4⟩ := h
  exact Rd_chg (R := R) (R' := R') (B := w.heap.size) hRR hR f1 (fun b hb => by have := f3 b hb; have := hm.2; omega) hc hg
theorem Own_rdBB {w : World} {v : Value} {x : List (List UInt8)} {G : List Nat} (h : OBB w v x G) : Rd (Rd RB) w v x := h.rd (fun q => q.rd (fun k => k.rb))
def LenLe (n : Nat) (l : List (List UInt8)) : Prop := ∀ x ∈ l, x.length ≤ n

set_option maxHeartbeats 4000000 in
set_option maxRecDepth 100000 in
theorem l8db_c (V : Value) (xs : List UInt8) (g : Nat) (n : Nat) (w0 w : World) (hx : Rd RB w0 V xs) (hn : xs.length ≤ 1048576) (h2 : n ≤ 64) (h : CurT w0 V g w) :
    Calls Try.prog 133 #[.pointer (some ⟨g, 0, none⟩), .int .i64 (n : Int)] w fun e w' => ∃ A l c ds, e = .returned (.agg #[.slice A l c]) ∧ Drew OBB g w w' (.slice A l c) ds ∧ CurT w0 V g w' ∧ ds.length = n ∧ LenLe 24 ds := by
  have BY : Hid (∀ W, CurT w0 V g W → Calls Try.prog 93 #[.pointer (some ⟨g, 0, none⟩), .int .i64 24] W fun e w' => ∃ v' ys, ys.length = 24 ∧ e = .returned v' ∧ Drew (Own 5 FB) g W w' v' ys ∧ CurT w0 V g w') := Lib.hid (fun W hW => bytes_c V xs g 24 w0 W hx hn (by omega) hW)
  have hgl := h.lt
  have H := Lib.hid h
  clear h hx
  go_enter Try.func133, Try.ntmps133
  go_wp2
  go_loopw [6] (fun i wr => ∃ (k : Nat) (vo : Value) (ds : List (List UInt8)), k ≤ n ∧ i = .int .i64 k ∧ Hid (NRow 22 (Own 5 FB) (w.heap.size + 2) wr vo k ds [] ∧ LenLe 24 ds) ∧ Hid (Box wr w.heap.size 26 #[.slice none 0 0]) ∧ Hid (Box wr (w.heap.size + 1) 26 #[vo]) ∧ Hid (CurT w0 V g wr ∧ Chg g (g + 1) w wr)) (fun i _ => n - (intOf i).toNat)
  case atStart => exact ⟨0, _, [], Nat.zero_le _, rfl, Lib.hid ⟨NRow_nil _, fun x hx => by cases hx⟩, Lib.hid ((Box.new _ _ _).alloc _), Lib.hid (by have := Box.new (w.alloc (.cells #[.slice none 0 0] 26)) 26 #[.slice none 0 0]; simpa using this), Lib.hid ⟨(H.out.step (below_alloc _ _)).step (below_alloc _ _), (Chg.of_below (below_alloc _ _)).trans (Chg.of_below (below_alloc _ _))⟩⟩
  case round =>
    obtain ⟨k, vo, ds, hk, rfl, NR, Br, Bd, CC⟩ := hrel
    by_cases hlt : k < n
    · obtain ⟨Ao, lo, co, rfl⟩ : ∃ A' l' c', vo = .slice A' l' c' := by obtain ⟨_, _, k1, _⟩ := NR.out.1.open_; exact own_shape k1
      have hwr : w.heap.size + 1 < wr.drew.heap.size := Bd.out.lt
      have c1 : wr.drew.cell? ⟨w.heap.size + 1, 0, none⟩ = some (.slice Ao lo co) := Bd.out.cell 0
      have Cd : Hid (CurT w0 V g wr.drew) := Lib.hid CC.out.1.drew
      go_wp2_with fail
      go_region_law (first
        | (refine step_app elBB (by rfl) _ _ (by rfl) (.slice Ao lo co) k cells (by rfl) HOWN (some ⟨w3.heap.size, 0, none⟩) 1 1 [.slice Au lu cu] (by rfl) HSRC (one_single _ rfl) (by simp only [maxLen]; omega) (by omega) ?_; intro v4 w4 hown hg hat; obtain ⟨A4, l4, c4', rfl⟩ := own_shape hown; have P4 := box_append (Own_good FB_good) K.out.1 K.out.2.1 K.out.2.2.1 K.out.2.2.2 FH.out (by omega) Bd3.out hown hg hat; have x4 := P4.1.1; have y4 := P4.1.2; have PH := Lib.hid P4.2; clear P4 hown hg hat)
        | (go_simp; go_at_call 93; refine (BY.out _ Cd.out).mono ?_; rintro e w3 ⟨u3, ys, hys, rfl, D3, hc3⟩; have HYS := Lib.hid hys; have ch3 := D3.chg; obtain ⟨wm, hm, hms, FU⟩ := D3.open_; obtain ⟨Au, lu, cu, rfl⟩ := fresh_slice FU; have hs3 := FU.below.size; have HC3 := Lib.hid hc3; have Br3 : Hid (Box w3 w.heap.size 26 #[.slice none 0 0]) := Lib.hid (Box.chg (w := wr.drew) Br.out ch3 (by omega)); have Bd3 : Hid (Box w3 (w.heap.size + 1) 26 #[.slice Ao lo co]) := Lib.hid (Box.chg (w := wr.drew) Bd.out ch3 (by omega)); obtain ⟨cells, F0, k1, k2, k3, k4⟩ := ((NR.out.1.drew_ (Own_good FB_good)).mid (Own_good FB_good) hm (by omega)).open_; have K := Lib.hid (And.intro k1 (And.intro k2 (And.intro k3 k4))); have d3 : w3.cell? ⟨w.heap.size + 1, 0, none⟩ = some (.slice Ao lo co) := Bd3.out.cell 0; have KW := Lib.hid (ownsRow_at (w' := w3) k1 (fun q hq => FU.below.block q (k1.lt q (by simpa using hq)).2)); have CH3 := Lib.hid ((CC.out.2.drew_).trans ch3); have FH := Lib.hid FU; have HOWN : (w3.alloc (.cells #[.slice Au lu cu] 22)).ownsRow 0 22 1 (.slice Ao lo co) k cells := KW.out.alloc _; have HSRC : Src (w3.alloc (.cells #[.slice Au lu cu] 22)) (some ⟨w3.heap.size, 0, none⟩) 1 [.slice Au lu cu] := Src_one _ _ _; have d6 : (w3.alloc (.cells #[.slice Au lu cu] 22)).cell? ⟨w.heap.size + 1, 0, none⟩ = some (.slice Ao lo co) := (Bd3.out.alloc _).cell 0; clear FU D3 hc3 ch3 hys hm k1 k2 k3 k4))
      all_goals
        have NF := Lib.hid (And.intro PH.out.1 (show LenLe 24 (ds ++ [ys]) from fun x hx => by
          rcases List.mem_append.1 hx with hx | hx
          · exact NR.out.2 x hx
          · simp at hx; rw [hx, HYS.out]; exact Nat.le_refl _))
        have CF := Lib.hid (And.intro (HC3.out.via (gd := w.heap.size + 1) (by omega) PH.out.2.2.1 PH.out.2.2.2) (CH3.out.low (PH.out.2.2.2 w.heap.size w3 (by omega) (Below.refl _ _))))
        go_wp2
        go_roundw
        case rel => exact ⟨k + 1, _, ds ++ [ys], by omega, by go_num, NF, Lib.hid (PH.out.2.2.1 _ _ _ (by omega) Br3.out), Lib.hid PH.out.2.1, CF⟩
        case measure => simp [intOf]; omega
    · have hkn : k = n := by omega
      subst hkn
      obtain ⟨A', l', c', rfl⟩ : ∃ A' l' c', vo = .slice A' l' c' := by obtain ⟨_, _, k1, _⟩ := NR.out.1.open_; exact own_shape k1
      have c0 : wr.cell? ⟨w.heap.size, 0, none⟩ = some (.slice none 0 0) := Br.out.cell 0
      have f0 := Br.out.frozen 0
      have c1 : wr.cell? ⟨w.heap.size + 1, 0, none⟩ = some (.slice A' l' c') := Bd.out.cell 0
      have cr := (Br.out.set_ 0 (.slice A' l' c')).cell 0
      have hlen : ds.length = k := by have := NR.out.1.len; simpa using this.symm
      have HL := Lib.hid hlen
      have cg : Chg g (g + 1) w (wr.setCell ⟨w.heap.size, 0, none⟩ (.slice A' l' c')) := CC.out.2.low ((Below.refl w.heap.size wr).setCell (p := ⟨w.heap.size, 0, none⟩) (Nat.le_refl _) _)
      have hrow := NR.out.1.setLow (Own_good FB_good) (p := ⟨w.heap.size, 0, none⟩) (by show w.heap.size < _; omega) (.slice A' l' c')
      have D := Lib.hid (show Drew OBB g w _ _ ds from by
        obtain ⟨F, h1, h2, h3⟩ := hrow.own
        exact Drew_of hgl cg h1 h2 (fun b hb => by have := h3 b hb; omega))
      have C := Lib.hid (CC.out.1.far (p := ⟨w.heap.size, 0, none⟩) (by show g ≠ w.heap.size; omega) (by show w0.heap.size ≤ w.heap.size; have := CC.out.1.ge; omega) (.slice A' l' c'))
      have HLE := Lib.hid NR.out.2
      clear hlen cg hrow NR Br Bd CC
      go_wp2
      refine bodyPost_ret (v := .agg #[.slice A' l' c']) (by simp [results, Try.results133, go_sem, cr]) rfl ⟨_, _, _, ds, rfl, D.out, C.out, HL.out, HLE.out⟩
end Go.Proofs.Ytceogegjghmonaa
