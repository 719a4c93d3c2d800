/- The drawing functions: any database, a cell, the arguments of ReplaceRow and of ReadPrivately. -/
import Derived.Test.YtceogegjghmonaaDraw3
import Derived.IntWalk
namespace Go.Proofs.Ytceogegjghmonaa
set_option linter.unusedVariables false
open Go.RowKit

/-- One element more, by append, of a row whose blocks are not g's; then a store into block g. -/
theorem app_other {α : Type} {E : TypeId} {R : FRel α} (hR : Good R) {B n : Nat} {w w1 w2 : World} {o : Obj} {v u v' z : Value} {xs : List α} {x : α} {cells : List Value} {F : List Nat} {gd : Nat} (k1 : w.ownsRow 0 E 1 v n cells) (k2 : AllR R w cells xs F) (k3 : (v.ownBlock.toList ++ F).Nodup) (k4 : ∀ b, b ∈ v.ownBlock.toList ++ F → B ≤ b)
    (hgd : gd < w.heap.size) (hne : ∀ b, b ∈ v.ownBlock.toList ++ F → b ≠ gd) (hu : Fresh R w w1 u x) (hB : B ≤ w.heap.size) (h1 : w2.ownsRow 0 E 1 v' (n + 1) (cells ++ [u])) (hg : (w1.alloc o).grownBy w2 v.ownBlock) (hat : v'.ownBlock = v.ownBlock ∨ v'.ownBlock = some (w1.alloc o).heap.size) :
    NRow E R B (w2.setCell ⟨gd, 0, none⟩ z) v' (n + 1) (xs ++ [x]) [] := by
  obtain ⟨F1, f1, f2, f3, f4⟩ := hu
  have hvlt : ∀ b, v.ownBlock = some b → b < w.heap.size := fun b hb => (k1.lt b hb).2
  have hFlt : ∀ b, b ∈ F → b < w.heap.size := fun b hb => k2.lt hR b hb
  have hF1lt : ∀ b, b ∈ F1 → b < w1.heap.size := fun b hb => hR.lt f1 b hb
  have hs := f4.size
  have hvF : ∀ b, v.ownBlock = some b → b ∉ F := fun b hb hbF => by
    rw [List.nodup_append] at k3
    exact k3.2.2 b (by simpa using hb) b hbF rfl
  have keep : ∀ b, b < w1.heap.size → some b ≠ v.ownBlock → b ≠ gd → (w2.setCell ⟨gd, 0, none⟩ z).heap[b]? = w1.heap[b]? := fun b hb hn hgb =>
    (Below.heap_setCell w2 ⟨gd, 0, none⟩ z b hgb).trans ((hg.block b (by simp; omega) hn).trans (Below.heap_alloc w1 o b hb))
  have kF : AllR R (w2.setCell ⟨gd, 0, none⟩ z) cells xs F := k2.stab hR (fun b hb => (keep b (by have := hFlt b hb; omega) (fun e => hvF b e.symm hb) (hne b (List.mem_append_right _ hb))).trans (f4.block b (hFlt b hb)))
  have kF1 : R (w2.setCell ⟨gd, 0, none⟩ z) u x F1 := hR.stab f1 (fun b hb => keep b (hF1lt b hb) (fun e => by have := hvlt b e.symm; have := f3 b hb; omega) (fun e => by have := f3 b hb; omega))
  have hv' : ∀ b, v'.ownBlock = some b → (b ∉ F ∧ b ∉ F1) ∧ B ≤ b ∧ b ≠ gd := by
    intro b hb
    rcases hat with e | e
    · rw [e] at hb
      exact ⟨⟨hvF b hb, fun hb1 => by have := hvlt b hb; have := f3 b hb1; omega⟩, k4 b (List.mem_append_left _ (by simpa using hb)), hne b (List.mem_append_left _ (by simpa using hb))⟩
    · rw [e] at hb
      injection hb with hb
      rw [World.size_alloc] at hb
      exact ⟨⟨fun hbF => by have := hFlt b hbF; omega, fun hb1 => by have := hF1lt b hb1; omega⟩, by omega, by omega⟩
  refine ⟨cells ++ [u], F ++ F1, by simpa using ownsRow_at h1 (fun b hb => Below.heap_setCell w2 ⟨gd, 0, none⟩ z b (hv' b (by simpa using hb)).2.2), kF.snoc kF1, ?_, ?_⟩
  · rw [List.nodup_append] at k3 ⊢
    refine ⟨ownBlock_nodup v', List.nodup_append.2 ⟨k3.2.1, f2, fun a ha b hb e => ?_⟩, fun a ha b hb e => ?_⟩
    · subst e
      have := hFlt a ha
      have := f3 a hb
      omega
    · subst e
      have := (hv' a (by simpa using ha)).1
      rcases List.mem_append.1 hb with hb | hb
      · exact this.1 hb
      · exact this.2 hb
  · intro b hb
    rcases List.mem_append.1 hb with hb | hb
    · exact (hv' b (by simpa using hb)).2.1
    · rcases List.mem_append.1 hb with hb | hb
      · exact k4 b (List.mem_append_right _ hb)
      · exact Nat.le_trans hB (f3 b hb)

set_option maxHeartbeats 1000000 in
set_option maxRecDepth 100000 in
theorem l8any_c (V : Value) (xs : List UInt8) (g : Nat) (w0 w : World) (hx : Rd RB w0 V xs) (hn : xs.length ≤ 1048576) (h : CurT w0 V g w) :
    Calls Try.prog 78 #[.pointer (some ⟨g, 0, none⟩)] w fun e w' => ∃ A l c ds, e = .returned (.agg #[.slice A l c]) ∧ Drew OBB g w w' (.slice A l c) ds ∧ CurT w0 V g w' ∧ ds.length ≤ 64 ∧ LenLe 25 ds := by
  have BN : Hid (∀ (n : Nat) W, 1 ≤ n → n ≤ 1000000 → CurT w0 V g W → Calls Try.prog 79 #[.pointer (some ⟨g, 0, none⟩), .int .i64 (n : Int)] W (DrewN 0 ((n : Int) - 1) w0 V g W)) := Lib.hid (fun n W h1 h2 hW => belowN_c V xs g (n : Int) w0 W hx hn (by omega) (by omega) hW)
  have DB : Hid (∀ (n : Nat) W, n ≤ 64 → CurT w0 V g W → Calls Try.prog 133 #[.pointer (some ⟨g, 0, none⟩), .int .i64 (n : Int)] W fun e w' => ∃ A l c ds, e = .returned (.agg #[.slice A l c]) ∧ Drew OBB g W w' (.slice A l c) ds ∧ CurT w0 V g w' ∧ ds.length = n ∧ LenLe 24 ds) := Lib.hid (fun n W h1 hW => l8db_c V xs g n w0 W hx hn h1 hW)
  have BY : Hid (∀ (n : Nat) W, n ≤ 1000000 → CurT w0 V g W → Calls Try.prog 93 #[.pointer (some ⟨g, 0, none⟩), .int .i64 (n : Int)] W fun e w' => ∃ v' ys, ys.length = n ∧ e = .returned v' ∧ Drew (Own 5 FB) g W w' v' ys ∧ CurT w0 V g w') := Lib.hid (fun n W h1 hW => bytes_c V xs g n w0 W hx hn h1 hW)
  have hgl := h.lt
  have hge := h.ge
  have C0 := Lib.hid (h.step (below_alloc w (.cells #[.slice none 0 0] 26)))
  have Br0 := Lib.hid (Box.new w 26 #[.slice none 0 0])
  have cw0 := Lib.hid (Chg.of_below (lo := g) (hi := g + 1) (below_alloc w (.cells #[.slice none 0 0] 26)))
  clear h hx
  go_enter Try.func78, Try.ntmps78
  go_wp2_with fail
  refine (BN.out 7 _ (by omega) (by omega) C0.out).mono ?_
  rintro e w1 ⟨r, hr, rfl, hc, hg⟩
  obtain ⟨k, rfl⟩ := Int.eq_ofNat_of_zero_le hr.1
  have C1 := Lib.hid hc
  have G1 := Lib.hid (cw0.out.trans hg)
  have Br1 := Lib.hid (Br0.out.chg hg (by omega))
  clear hc hg cw0 C0
  go_wp2_with fail
  refine (DB.out k _ (by omega) C1.out).mono ?_
  rintro e w2 ⟨A, l, c, ds, rfl, D2, hc, hl, hle⟩
  have C2 := Lib.hid hc
  have G2 := Lib.hid (G1.out.trans D2.chg)
  have Br2 := Lib.hid (Br1.out.chg D2.chg (by omega))
  have hs1 := Br1.out.lt
  have hs2 := hc.lt
  have hs12 := D2.chg.size
  have NR2 : Hid (NRow 22 (Own 5 FB) w1.heap.size w2 (.slice A l c) ds.length ds []) := Lib.hid (by
    obtain ⟨wm, hm, hms, F⟩ := D2.open_
    have := F.nrow
    rwa [hms] at this)
  have HL := Lib.hid hl
  have HLE := Lib.hid hle
  have hds : ds.length ≤ 6 := by omega
  clear hc D2 hl hle
  have C3 := Lib.hid (C2.out.step (below_alloc w2 (.cells #[.slice A l c] 26)))
  have Bd3 := Lib.hid (Box.new w2 26 #[.slice A l c])
  have Br3 := Lib.hid (Br2.out.alloc (.cells #[.slice A l c] 26))
  have G3 := Lib.hid (G2.out.trans (Chg.of_below (lo := g) (hi := g + 1) (below_alloc w2 (.cells #[.slice A l c] 26))))
  have NR3 := Lib.hid (NR2.out.below (Own_good FB_good) (below_alloc w2 (.cells #[.slice A l c] 26)))
  go_wp2_with fail
  refine (BN.out 10 _ (by omega) (by omega) C3.out).mono ?_
  rintro e w4 ⟨r, hr2, rfl, hc, hg⟩
  have C4 := Lib.hid hc
  have hs4 := hg.size
  have hsz : (w2.alloc (.cells #[.slice A l c] 26)).heap.size = w2.heap.size + 1 := by simp
  have hs24 : w2.heap.size + 1 ≤ w4.heap.size := by omega
  have hs24d : w2.heap.size + 1 ≤ w4.drew.heap.size := hs24
  have G4 := Lib.hid (G3.out.trans hg)
  have Br4 := Lib.hid (Br3.out.chg hg (by omega))
  have Bd4 := Lib.hid (Bd3.out.chg hg (by omega))
  have NR4 := Lib.hid (NR3.out.mid (Own_good FB_good) hg (by omega))
  have cd4 : w4.cell? ⟨w2.heap.size, 0, none⟩ = some (.slice A l c) := Bd4.out.cell 0
  have cr4 : w4.cell? ⟨w.heap.size, 0, none⟩ = some (.slice none 0 0) := Br4.out.cell 0
  have fr4 := Br4.out.frozen 0
  have H24 : Hid (Chg g (g + 1) w2 w4.drew) := Lib.hid (((Chg.of_below (below_alloc w2 _)).trans hg).drew_)
  clear hc hg Br0 Br1 Br2 Br3 Bd3 NR3 C3 G3 C2 G2 C1 G1
  -- what the end needs
  have END : Hid (∀ (W : World) A' l' c' (es : List (List UInt8)), NRow 22 (Own 5 FB) w1.heap.size W (.slice A' l' c') es.length es [] → CurT w0 V g W → Chg g (g + 1) w W → Drew OBB g w (W.setCell ⟨w.heap.size, 0, none⟩ (.slice A' l' c')) (.slice A' l' c') es ∧ CurT w0 V g (W.setCell ⟨w.heap.size, 0, none⟩ (.slice A' l' c'))) := Lib.hid (fun W A' l' c' es hN hC hG => by
    have cg := hG.low ((Below.refl w.heap.size W).setCell (p := ⟨w.heap.size, 0, none⟩) (Nat.le_refl _) (.slice A' l' c'))
    have hrow := hN.setLow (Own_good FB_good) (p := ⟨w.heap.size, 0, none⟩) (by show w.heap.size < _; omega) (.slice A' l' c')
    obtain ⟨F, h1, h2, h3⟩ := hrow.own
    exact ⟨Drew_of hgl cg h1 h2 (fun b hb => by have := h3 b hb; omega), hC.far (p := ⟨w.heap.size, 0, none⟩) (by show g ≠ w.heap.size; omega) (by show w0.heap.size ≤ w.heap.size; omega) _⟩)
  by_cases h0 : r = 0
  · subst h0
    have hNR4 : Hid (NRow 22 (Own 5 FB) w1.heap.size w4.drew (.slice A l c) ds.length ds []) := Lib.hid (NR4.out.drew_ (Own_good FB_good))
    have c1 : w4.drew.cell? ⟨w2.heap.size, 0, none⟩ = some (.slice A l c) := cd4
    have Cd : Hid (CurT w0 V g w4.drew) := Lib.hid C4.out.drew
    have hgd : w2.heap.size < w4.drew.heap.size := Bd4.out.lt
    have NEB : Hid (∀ W : World, Chg g (g + 1) w2 W → ∃ cells F, W.ownsRow 0 22 1 (.slice A l c) ds.length cells ∧ AllR (Own 5 FB) W cells ds F ∧ ((Value.slice A l c).ownBlock.toList ++ F).Nodup ∧ (∀ b, b ∈ (Value.slice A l c).ownBlock.toList ++ F → w1.heap.size ≤ b) ∧ (∀ b, b ∈ (Value.slice A l c).ownBlock.toList ++ F → b ≠ w2.heap.size)) := Lib.hid (fun W hc => by
      obtain ⟨cells, F, k1, k2, k3, k4⟩ := NR2.out.open_
      have lt : ∀ b, b ∈ (Value.slice A l c).ownBlock.toList ++ F → b < w2.heap.size := fun b hb => by
        rcases List.mem_append.1 hb with hb | hb
        · exact (k1.lt b (by simpa using hb)).2
        · exact k2.lt (Own_good FB_good) b hb
      have keep : ∀ b, b ∈ (Value.slice A l c).ownBlock.toList ++ F → W.heap[b]? = w2.heap[b]? := fun b hb => hc.block b (lt b hb) (fun q => by have := k4 b hb; omega)
      exact ⟨cells, F, ownsRow_at k1 (fun b hb => keep b (List.mem_append_left _ hb)), k2.stab (Own_good FB_good) (fun b hb => keep b (List.mem_append_right _ hb)), k3, k4, fun b hb => by have := lt b hb; omega⟩)
    have BY3 : Hid (∀ (m : Nat) W, m ≤ 2 → CurT w0 V g W → Calls Try.prog 93 #[.pointer (some ⟨g, 0, none⟩), .int .i64 (23 + (m : Int))] W fun e w' => ∃ v' ys, ys.length = 23 + m ∧ e = .returned v' ∧ Drew (Own 5 FB) g W w' v' ys ∧ CurT w0 V g w') := Lib.hid (fun m W hm hW => by
      have := BY.out (23 + m) W (by omega) hW
      rwa [show ((23 + m : Nat) : Int) = 23 + (m : Int) by omega] at this)
    have BN3 : Hid (∀ W, CurT w0 V g W → Calls Try.prog 79 #[.pointer (some ⟨g, 0, none⟩), .int .i64 3] W (DrewN 0 2 w0 V g W)) := Lib.hid (fun W hW => BN.out 3 W (by omega) (by omega) hW)
    clear BN DB BY
    go_wp2_with fail
    go_region_law (first
      | (refine step_app elBB (by rfl) _ _ (by rfl) (.slice A l c) ds.length cells (by rfl) HOWN (some ⟨w6.heap.size, 0, none⟩) 1 1 [.slice Au lu cu] (by rfl) HSRC (one_single _ rfl) (by simp only [maxLen]; omega) (by omega) ?_; intro v7 w7 hown hg hat; obtain ⟨A7, l7, c7, rfl⟩ := own_shape hown; have NR7 := Lib.hid (app_other (z := .slice A7 l7 c7) (Own_good FB_good) KE.out.1 KE.out.2.1 KE.out.2.2.1 KE.out.2.2.2.1 (by omega) KE.out.2.2.2.2 FH.out (by omega) hown hg hat); have nrow : some w2.heap.size ≠ (Value.slice A l c).ownBlock := fun e => KE.out.2.2.2.2 w2.heap.size (List.mem_append_left _ (by rw [← e]; simp)) rfl; have vge : ∀ b, (Value.slice A l c).ownBlock = some b → w1.heap.size ≤ b := fun b hb => KE.out.2.2.2.1 b (List.mem_append_left _ (by rw [hb]; simp)); have b7 := Box.grown (Bd6.out.alloc _) hg nrow; have x7 := b7.cell 0; have y7 := b7.frozen 0; have Bd7 := Lib.hid (b7.set_ 0 (.slice A7 l7 c7)); have Br7 := Lib.hid ((Box.grown (Br6.out.alloc _) hg (fun e => by have := vge _ e.symm; omega)).far (p := ⟨w2.heap.size, 0, none⟩) (by show w.heap.size ≠ w2.heap.size; omega) (.slice A7 l7 c7)); have C7 := Lib.hid ((C6.out.grow hg (fun b hb => by have := vge b hb; omega)).far (p := ⟨w2.heap.size, 0, none⟩) (by show g ≠ w2.heap.size; omega) (by show w0.heap.size ≤ w2.heap.size; omega) (.slice A7 l7 c7)); have G7 := Lib.hid ((G6.out.grow hg (fun b hb => by have := vge b hb; omega)).low ((Below.refl w.heap.size w7).setCell (p := ⟨w2.heap.size, 0, none⟩) (by show w.heap.size ≤ w2.heap.size; omega) (.slice A7 l7 c7))); clear hown hg hat b7 nrow vge)
      | (go_simp; go_at_call 79; refine (BN3.out _ Cd.out).mono ?_; rintro e w5 ⟨mi, hm, rfl, hc5, hg5⟩; obtain ⟨m, rfl⟩ := Int.eq_ofNat_of_zero_le hm.1; have hm2 : m ≤ 2 := (by omega); have hwm : IntKind.i64.wrap (23 + (m : Int)) = 23 + (m : Int) := IntWalk.i64_in _ (by omega); have C5 := Lib.hid hc5; have H25 := Lib.hid (H24.out.trans hg5); have G5 := Lib.hid (G4.out.drew_.trans hg5); have hs5 := hg5.size; have Bd5 : Hid (Box w5 w2.heap.size 26 #[.slice A l c]) := Lib.hid (Box.chg (w := w4.drew) Bd4.out hg5 (by omega)); have Br5 : Hid (Box w5 w.heap.size 26 #[.slice none 0 0]) := Lib.hid (Box.chg (w := w4.drew) Br4.out hg5 (by omega)); have c5 : w5.cell? ⟨w2.heap.size, 0, none⟩ = some (.slice A l c) := Bd5.out.cell 0; clear hc5 hg5)
      | (go_simp; go_at_call 93; refine (BY3.out m _ hm2 C5.out).mono ?_; rintro e w6 ⟨u6, ys, hys, rfl, D6, hc6⟩; have HY25 : Hid (ys.length ≤ 25) := Lib.hid (by omega); have ch6 := D6.chg; obtain ⟨wm, hm6, hms, FU⟩ := D6.open_; obtain ⟨Au, lu, cu, rfl⟩ := fresh_slice FU; have hs6 := FU.below.size; have C6 := Lib.hid hc6; have G6 := Lib.hid (G5.out.trans ch6); have Bd6 : Hid (Box w6 w2.heap.size 26 #[.slice A l c]) := Lib.hid (Bd5.out.chg ch6 (by omega)); have Br6 : Hid (Box w6 w.heap.size 26 #[.slice none 0 0]) := Lib.hid (Br5.out.chg ch6 (by omega)); have c6 : w6.cell? ⟨w2.heap.size, 0, none⟩ = some (.slice A l c) := Bd6.out.cell 0; have c6a : (w6.alloc (.cells #[.slice Au lu cu] 22)).cell? ⟨w2.heap.size, 0, none⟩ = some (.slice A l c) := (Bd6.out.alloc _).cell 0; obtain ⟨cells, F0, ke⟩ := NEB.out wm (H25.out.trans hm6); have KE := Lib.hid ke; have KW := Lib.hid (ownsRow_at (w' := w6) ke.1 (fun q hq => FU.below.block q (ke.1.lt q (by simpa using hq)).2)); have FH := Lib.hid FU; have HOWN : (w6.alloc (.cells #[.slice Au lu cu] 22)).ownsRow 0 22 1 (.slice A l c) ds.length cells := KW.out.alloc _; have HSRC : Src (w6.alloc (.cells #[.slice Au lu cu] 22)) (some ⟨w6.heap.size, 0, none⟩) 1 [.slice Au lu cu] := Src_one _ _ _; clear FU D6 hc6 ch6 hys ke hm6))
    all_goals
      have hle25 : LenLe 25 (ds ++ [ys]) := fun x hx => by
        rcases List.mem_append.1 hx with hx | hx
        · have := HLE.out x hx; omega
        · simp at hx; rw [hx]; exact HY25.out
      have H25x := Lib.hid hle25
      have HLN : Hid ((ds ++ [ys]).length = ds.length + 1) := Lib.hid (by simp)
      have E := Lib.hid (END.out _ A7 l7 c7 (ds ++ [ys]) (by rw [HLN.out]; exact NR7.out) C7.out G7.out)
      have cd7 := Bd7.out.cell 0
      have cr7 := Br7.out.cell 0
      have fr7 := Br7.out.frozen 0
      have cr := (Br7.out.set_ 0 (.slice A7 l7 c7)).cell 0
      clear hle25 END NR7 C7 G7 Bd7 Br7
      go_wp2
      refine bodyPost_ret (v := .agg #[.slice A7 l7 c7]) (by simp [results, Try.results78, go_sem, cr]) rfl ⟨_, _, _, ds ++ [ys], rfl, E.out.1, E.out.2, by rw [HLN.out]; omega, H25x.out⟩
  · by_cases h1 : r = 1
    · subst h1
      go_wp2_with fail
      refine (specNewDatabase_c 64 w4 (by omega) (by omega)).mono ?_
      rintro e w5 ⟨A5, l5, c5, rfl, F5⟩
      have hn64 : newDb 64 = List.replicate 64 zcell := rfl
      have hB : w1.heap.size ≤ w4.heap.size := by omega
      have NR5 : NRow 22 (Own 5 FB) w1.heap.size w5 (.slice A5 l5 c5) (newDb 64).length (newDb 64) [] := by
        obtain ⟨cells, F, k1, k2, k3, k4⟩ := F5.nrow
        exact ⟨cells, F, k1, k2, k3, fun b hb => Nat.le_trans hB (k4 b hb)⟩
      have E := Lib.hid (END.out w5 A5 l5 c5 (newDb 64) NR5 (C4.out.step F5.below) (G4.out.trans (Chg.of_below F5.below)))
      have Br5 := Br4.out.below F5.below Br4.out.lt
      have cr5 : w5.cell? ⟨w.heap.size, 0, none⟩ = some (.slice none 0 0) := Br5.cell 0
      have fr5 := Br5.frozen 0
      have cr := (Br5.set_ 0 (.slice A5 l5 c5)).cell 0
      have hle25 : LenLe 25 (newDb 64) := fun x hx => by
        rw [hn64] at hx
        rw [(List.mem_replicate.1 hx).2]
        simp [zcell]
      have H25 := Lib.hid hle25
      have HLN : Hid ((newDb 64).length = 64) := Lib.hid (by rw [hn64, List.length_replicate])
      clear hle25 END NR4 NR5 Br4 Bd4 C4 G4 Br5 F5 hn64
      go_wp2
      refine bodyPost_ret (v := .agg #[.slice A5 l5 c5]) (by simp [results, Try.results78, go_sem, cr]) rfl ⟨_, _, _, newDb 64, rfl, E.out.1, E.out.2, by rw [HLN.out]; omega, H25.out⟩
    · have E := Lib.hid (END.out w4 A l c ds NR4.out C4.out G4.out)
      have cr := (Br4.out.set_ 0 (.slice A l c)).cell 0
      have hle25 : LenLe 25 ds := fun x hx => by have := HLE.out x hx; omega
      have H25 := Lib.hid hle25
      clear hle25 END NR4 Br4 Bd4 C4 G4
      go_wp2
      refine bodyPost_ret (v := .agg #[.slice A l c]) (by simp [results, Try.results78, go_sem, cr]) rfl ⟨_, _, _, ds, rfl, E.out.1, E.out.2, by omega, H25.out⟩
end Go.Proofs.Ytceogegjghmonaa
