/- FnCells, for every argument, no condition: a sealed cell opens with its own key and counter and gives back what was sealed; with another counter, another key or a bit turned it does not open. -/
import Derived.Test.YtokhogdocaeelaaDrawSd
import Derived.Test.YtokhogdocaeelaaCelQ
import Derived.Test.YtokhogdocaeelaaAt
import Derived.Test.YtokhogdocaeelaaSame
namespace Go.Proofs.Ytokhogdocaeelaa.fnCells
set_option linter.unusedVariables false
open Go.RowKit Go.ChangeShapes Go.WideShapes Go.ChangeAt

theorem flip_ne (x : UInt8) (s : Nat) (h : s < 8) : x ^^^ UInt8.ofNat (2 ^ s) ≠ x := by
  intro e
  have e2 : x ^^^ (x ^^^ UInt8.ofNat (2 ^ s)) = x ^^^ x := by rw [e]
  rw [← UInt8.xor_assoc, UInt8.xor_self, UInt8.zero_xor] at e2
  have : ∀ s : Fin 8, UInt8.ofNat (2 ^ s.val) ≠ 0 := by decide +kernel
  exact this ⟨s, h⟩ e2
theorem pow_u8 (s : Nat) (h : s < 8) : IntKind.u8.wrap (2 ^ s) = ((UInt8.ofNat (2 ^ s)).toNat : Int) := by
  have : ∀ s : Fin 8, IntKind.u8.wrap (2 ^ s.val) = ((UInt8.ofNat (2 ^ s.val)).toNat : Int) := by decide +kernel
  exact this ⟨s, h⟩
set_option maxHeartbeats 1000000 in
set_option maxRecDepth 100000 in
theorem walk (w : World) (v0 : Value) (x0 : List UInt8) (y0 : Rd RB w v0 x0) :
    Calls Try.prog 11 #[v0] w fun e w' => e = .returned (.bool true) ∧ Below w.heap.size w w' := by
  by_cases hl : x0.length ≤ 1048576
  · obtain ⟨A, n, cc, rfl, h'⟩ := y0
    have y0 : Rd RB w (.slice A n cc) x0 := ⟨_, _, _, rfl, h'⟩
    clear h'
    have AT : Hid (∀ (i : Int) (W : World), Below w.heap.size w W → 0 ≤ i → i ≤ 1000000 → Calls Try.prog 19 #[.slice A n cc, .int .i64 i] W fun e w' => e = .returned (.int .i64 (atI x0 i)) ∧ W = w') := Lib.hid (fun i W b h0 h1 => at_c _ x0 i W (Rd_reads RB_reads _ _ _ _ y0 b) hl h0 h1)
    have HB := Lib.hid (big_f _ x0 w y0 hl)
    have DR := Lib.hid (drawSc_c _ x0 w y0 hl)
    clear y0 hl
    go_enter Try.func11, Try.ntmps11
    go_wp2_with fail
    refine HB.out.mono ?_
    rintro e w' ⟨rfl, rfl⟩
    go_wp2_with fail
    refine DR.out.mono ?_
    rintro e w1 ⟨k, c, m, Ap, lp, cp, body, rfl, rp, hk, hc, hm, hb, T1⟩
    have bx := below_alloc w1 (.cells #[.int .i64 m, .slice Ap lp cp] 58)
    have Bp := Lib.hid (Box.new w1 58 #[.int .i64 m, .slice Ap lp cp])
    have T2 := T1.trans (bx.mono T1.size)
    have RP := Lib.hid (Rd_reads RB_reads _ _ _ _ rp bx)
    have c0 := Bp.out.cell 0
    have c1 := Bp.out.cell 1
    obtain ⟨ok, hok⟩ : ∃ b : Bool, Hid (sealOk k c m body = b) := ⟨_, Lib.hid rfl⟩
    have SC := Lib.hid (implSealCell_c k c m _ body ok _ RP.out hok)
    have HC := Lib.hid hc
    clear rp T1 HB DR hc
    go_wp2_with fail
    generalize w1.alloc (.cells #[.int .i64 m, .slice Ap lp cp] 58) = w2 at *
    generalize w1.heap.size = gp at *
    refine SC.out.mono ?_
    rintro e w3 ⟨vb, rfl, F3⟩
    obtain ⟨Ab, lb, cb, rfl⟩ := fresh_slice F3
    have rb := (F3.iv (Own_good FB_good)).rd (R' := RB) (fun q => q.rb)
    have hlb := rb.at_same.1
    have RB3 := Lib.hid rb
    have T3 := T2.trans (F3.below.mono T2.size)
    have Bp3 := Lib.hid (Bp.out.below F3.below Bp.out.lt)
    have RP3 := Lib.hid (Rd_reads RB_reads _ _ _ _ RP.out F3.below)
    have c0 := Bp3.out.cell 0
    have c1 := Bp3.out.cell 1
    have KY := Lib.hid (fun W => specKey_c k W)
    have PL := Lib.hid (fun W hW => specIsValidPlain_c m _ body W (Rd_reads RB_reads _ _ _ _ RP3.out hW))
    have hsq := hok.out
    unfold sealOk at hsq
    clear F3 rb SC RP Bp T2 bx
    have FAIL : ok = false → lb = 0 := fun h => by
      subst h
      rw [sealC_no hok.out] at hlb
      exact hlb.symm
    cases hk2 : keyOk k with
    | false =>
      have hokf : ok = false := by rw [← hsq, hk2]; rfl
      subst hokf
      obtain rfl := FAIL rfl
      rw [hk2] at KY
      clear hsq hk2 PL
      go_wp2_with fail
      refine (KY.out _).mono ?_
      rintro e w' ⟨rfl, rfl⟩
      go_wp2
      go_ret
      exact ⟨rfl, T3⟩
    | true =>
      rw [hk2] at KY
      by_cases hc0 : 0 ≤ c
      · by_cases hc1 : c ≤ 1000000000000
        · have hcn : cntOk c = true := decide_eq_true ⟨hc0, hc1⟩
          cases hp : plainOk m body with
          | false =>
            have hokf : ok = false := by rw [← hsq, hk2, hcn, hp]; rfl
            subst hokf
            obtain rfl := FAIL rfl
            rw [hp] at PL
            clear hsq hk2 hp
            go_wp2_with fail
            refine (KY.out _).mono ?_
            rintro e w' ⟨rfl, rfl⟩
            go_wp2_with fail
            refine (PL.out _ (Below.refl _ _)).mono ?_
            rintro e w4 ⟨rfl, b4⟩
            go_wp2
            go_ret
            exact ⟨rfl, T3.trans (b4.mono T3.size)⟩
          | true =>
            have hokt : ok = true := by rw [← hsq, hk2, hcn, hp]; rfl
            subst hokt
            rw [hp] at PL
            clear hsq FAIL
            go_wp2_with fail
            refine (KY.out _).mono ?_
            rintro e w' ⟨rfl, rfl⟩
            go_wp2_with fail
            refine (PL.out _ (Below.refl _ _)).mono ?_
            rintro e w4 ⟨rfl, b4⟩
            have T4 := T3.trans (b4.mono T3.size)
            have hs := hok.out
            obtain rfl : lb = 24 := by rw [← hlb]; exact sealC_len k c m body hs
            have hkr : 1 ≤ k ∧ k ≤ 2147483646 := of_decide_eq_true hk2
            have OS := open_seal k c m body hs
            have HSL := Lib.hid hlb
            have HSE := Lib.hid hs
            obtain ⟨sc, hsc⟩ : ∃ s, sealC k c m body = s := ⟨_, rfl⟩
            have HSC := Lib.hid hsc
            rw [hsc] at OS RB3 hlb
            have E1 := (opn_yes OS.1).1.trans OS.2.1
            have E2 := (opn_yes OS.1).2.trans OS.2.2
            have Bp4 := Lib.hid (Bp3.out.below b4 Bp3.out.lt)
            have RP4 := Lib.hid (Rd_reads RB_reads _ _ _ _ RP3.out b4)
            have RB4 := Lib.hid (Rd_reads RB_reads _ _ _ _ RB3.out b4)
            have OC1 := implOpenCell_c k c _ sc true w4 RB4.out (Lib.hid OS.1)
            rw [E1, E2] at OC1
            have OC1 := Lib.hid OC1
            have ho : ∀ c', c % 2147483647 ≠ c' % 2147483647 → openOk k c' sc = false := fun c' h => by rw [← hsc]; exact seal_other hs h
            have hst : ∀ k', 1 ≤ k' → k' ≤ 2147483646 → k ≠ k' → openOk k' c sc = false := fun k' h1 h2 h3 => by rw [← hsc]; exact seal_stranger hs h1 h2 h3
            have HO := Lib.hid ho
            have HST := Lib.hid hst
            have hcr : c ≤ 49 ∨ c = 1000000000000 := by
              rcases HC.out with h | h
              · simp at h; omega
              · omega
            clear hs hsc OS E1 E2 ho hst hk2 hp hcn RP3 RB3 Bp3 b4 T3 KY PL hok hlb c0 c1
            go_wp2_with fail
            refine OC1.out.mono ?_
            rintro e w5 ⟨Aq, lq, cq, rfl, F5⟩
            have hw1 : IntKind.i64.wrap (c + 1) = c + 1 := IntWalk.i64_in _ (by omega)
            have ht1 : (c + 1).tmod 1000 = (c + 1) % 1000 := Int.tmod_eq_emod_of_nonneg (by omega)
            have hw2 : IntKind.i64.wrap (k + 5) = k + 5 := IntWalk.i64_in _ (by omega)
            have ht2 : (k + 5).tmod 1000 = (k + 5) % 1000 := Int.tmod_eq_emod_of_nonneg (by omega)
            have hw3 : IntKind.i64.wrap (1 + (k + 5) % 1000) = 1 + (k + 5) % 1000 := IntWalk.i64_in _ (by omega)
            have T5 := T4.trans (F5.below.mono T4.size)
            have bX := below_alloc w5 (.cells #[.int .i64 m, .slice Aq lq cq] 58)
            have TX := T5.trans (bX.mono T5.size)
            have rq := Rd_reads RB_reads _ _ _ _ ((F5.iv (Own_good FB_good)).rd (R' := RB) (fun q => q.rb)) bX
            have HK : Hid (∀ W, Below (w5.alloc (.cells #[.int .i64 m, .slice Aq lq cq] 58)).heap.size (w5.alloc (.cells #[.int .i64 m, .slice Aq lq cq] 58)) W → Box W w5.heap.size 58 #[.int .i64 m, .slice Aq lq cq] ∧ Box W gp 58 #[.int .i64 m, .slice Ap lp cp] ∧ Rd RB W (.slice Ab 24 cb) sc ∧ Rd RB W (.slice Ap lp cp) body ∧ Rd RB W (.slice Aq lq cq) body ∧ Below w.heap.size w W) := Lib.hid (fun W hW => by
              have b5 := F5.below
              have BQ := Box.new w5 58 #[.int .i64 m, .slice Aq lq cq]
              have BP := (Bp4.out.below b5 Bp4.out.lt).alloc (.cells #[.int .i64 m, .slice Aq lq cq] 58)
              exact ⟨BQ.below hW BQ.lt, BP.below hW BP.lt, Rd_reads RB_reads _ _ _ _ (Rd_reads RB_reads _ _ _ _ (Rd_reads RB_reads _ _ _ _ RB4.out b5) bX) hW, Rd_reads RB_reads _ _ _ _ (Rd_reads RB_reads _ _ _ _ (Rd_reads RB_reads _ _ _ _ RP4.out b5) bX) hW, Rd_reads RB_reads _ _ _ _ rq hW, TX.trans (hW.mono TX.size)⟩)
            clear rq F5 OC1 RB4 RP4 Bp4 T4 T5
            have hnb : Hid (openOk k ((c + 1) % 1000) sc = false) := Lib.hid (HO.out _ (by omega))
            have hnk : Hid (openOk (1 + (k + 5) % 1000) c sc = false) := Lib.hid (HST.out _ (by omega) (by omega) (by omega))
            clear bX HO HST
            go_wp2_with fail
            generalize w5.alloc (.cells #[.int .i64 m, .slice Aq lq cq] 58) = wX at *
            generalize w5.heap.size = gq at *
            have OF : Hid (∀ k' c' W, Below wX.heap.size wX W → Hid (openOk k' c' sc = false) → Calls Try.prog 45 #[.int .i64 k', .int .i64 c', .slice Ab 24 cb] W fun e w' => ∃ m' A l cc, e = .returned (.tuple #[.agg #[.int .i64 m', .slice A l cc], .bool false]) ∧ Below W.heap.size W w') := Lib.hid (fun k' c' W hW hno => (implOpenCell_c k' c' _ sc false W (HK.out W hW).2.2.1 hno).mono (by
              rintro e w' ⟨A, l, c2, rfl, F⟩
              exact ⟨_, A, l, c2, rfl, F.below⟩))
            refine (OF.out _ _ _ (Below.refl _ _) hnb).mono ?_
            rintro e w6 ⟨m6, A6, l6, c6, rfl, b6⟩
            have t6 := b6.alloc b6.size (.cells #[.int .i64 m6, .slice A6 l6 c6] 58)
            clear b6
            go_wp2_with fail
            refine (OF.out _ _ _ t6 hnk).mono ?_
            rintro e w7 ⟨m7, A7, l7, c7, rfl, b7⟩
            have t7 := t6.trans (b7.mono t6.size)
            have t8 := t7.alloc t7.size (.cells #[.int .i64 m7, .slice A7 l7 c7] 58)
            clear b7 t6
            have r0 := Row_lit (E := 5) (B := wX.heap.size) (w7.alloc (.cells #[.int .i64 m7, .slice A7 l7 c7] 58)) #[] t8.size (by simp)
            rw [World.size_alloc] at r0
            have R0 : Hid (Row 5 wX.heap.size ((w7.alloc (.cells #[.int .i64 m7, .slice A7 l7 c7] 58)).alloc (.cells #[] 5)) (.slice (some ⟨w7.heap.size + 1, 0, none⟩) 0 0) 0 []) := Lib.hid r0
            have t9 := t8.alloc t8.size (.cells #[] 5)
            have SRC := Lib.hid (HK.out _ t9).2.2.1.at_same.srcB
            have T9 := Lib.hid t9
            have hslen : sc.length = 24 := by rw [← HSC.out]; exact HSL.out
            clear r0 t7 t8 t9 TX
            go_wp2_with (at_builtin; refine wpList_app elB rfl (.tmp 80) (.tmp 81) rfl (.slice (some ⟨w7.heap.size + 1, 0, none⟩) 0 0) 0 _ rfl R0.out.1 Ab 24 cb _ rfl SRC.out (one_mapB sc) (by simp only [maxLen]; omega) (by omega) ?_; intro v8 w8 hown hg hat)
            have q8 := R0.out.app0 T9.out T9.out.size hown hg hat
            rw [List.nil_append, Nat.zero_add] at q8
            clear hown hg hat R0 T9 SRC
            have R8 := Lib.hid q8.1
            have t8 := q8.2
            obtain ⟨g8, cap8, rfl, hg8, hc8⟩ : ∃ g cap, v8 = .slice (some ⟨g, 0, none⟩) 24 cap ∧ wX.heap.size ≤ g ∧ 24 ≤ cap := by
              rcases q8.1.1.2 with ⟨_, h0⟩ | ⟨g, cap, cur, rfl, _, hg, hn, hc, hs, ht⟩
              · omega
              · exact ⟨g, cap, rfl, q8.1.2 g rfl, hn⟩
            clear q8
            obtain ⟨a0, e0⟩ : ∃ a, atI x0 0 = a := ⟨_, rfl⟩
            obtain ⟨a1, e1⟩ : ∃ a, atI x0 1 = a := ⟨_, rfl⟩
            obtain ⟨a2, e2⟩ : ∃ a, atI x0 2 = a := ⟨_, rfl⟩
            have b0 := atI_bd x0 0
            have b1 := atI_bd x0 1
            have b2 := atI_bd x0 2
            rw [e0] at b0
            rw [e1] at b1
            rw [e2] at b2
            have A0 := AT.out 0 w8 (HK.out _ t8).2.2.2.2.2 (by omega) (by omega)
            have A1 : Hid (∀ W, Below wX.heap.size wX W → Calls Try.prog 19 #[.slice A n cc, .int .i64 1] W fun e w' => e = .returned (.int .i64 a1) ∧ W = w') := Lib.hid (fun W hW => by rw [← e1]; exact AT.out 1 W (HK.out _ hW).2.2.2.2.2 (by omega) (by omega))
            have A2 : Hid (∀ W, Below wX.heap.size wX W → Calls Try.prog 19 #[.slice A n cc, .int .i64 2] W fun e w' => e = .returned (.int .i64 a2) ∧ W = w') := Lib.hid (fun W hW => by rw [← e2]; exact AT.out 2 W (HK.out _ hW).2.2.2.2.2 (by omega) (by omega))
            rw [e0] at A0
            clear e0 e1 e2 AT
            refine A0.mono ?_
            rintro e w' ⟨rfl, rfl⟩
            obtain ⟨i, hi⟩ : ∃ i : Nat, a0 % 24 = (i : Int) := ⟨(a0 % 24).toNat, by omega⟩
            obtain ⟨s, hs8⟩ : ∃ s : Nat, a1 % 8 = (s : Int) := ⟨(a1 % 8).toNat, by omega⟩
            have hi24 : i < 24 := by omega
            have hs8' : s < 8 := by omega
            have htm0 : a0.tmod 24 = (i : Int) := by rw [Int.tmod_eq_emod_of_nonneg (by omega), hi]
            have htm1 : a1.tmod 8 = (s : Int) := by rw [Int.tmod_eq_emod_of_nonneg (by omega), hs8]
            obtain ⟨x, hx⟩ : ∃ x, sc[i]? = some x := ⟨_, List.getElem?_eq_getElem (by omega)⟩
            have gx : w8.drew.cell? ⟨g8, i, none⟩ = some (.int .u8 (x.toNat : Int)) := by
              have := (R8.out.1.cellAt i (by omega)).trans (by rw [List.getElem?_map, hx])
              simpa using this
            have fx : w8.drew.frozen? ⟨g8, i, none⟩ = false := by
              have := R8.out.1.frozenAt i
              simpa using this
            have HX := Lib.hid hx
            have hi0 : (0 : Int) ≤ (i : Int) := by omega
            have hi1 : (i : Int) < 24 := by omega
            have hs1 := HSE.out
            obtain ⟨y, hy⟩ : ∃ y, x ^^^ UInt8.ofNat (2 ^ s) = y := ⟨_, rfl⟩
            have hyx : y ≠ x := by rw [← hy]; exact flip_ne x s hs8'
            have HXV : Hid (bits .xor .u8 (x.toNat : Int) (IntKind.u8.wrap (2 ^ s)) = (y.toNat : Int)) := Lib.hid (by rw [← hy, ← xor_u8, pow_u8 s hs8'])
            have hob : openOk k c (sc.set i y) = false := by
              rw [← HSC.out] at hx ⊢
              exact seal_bad hs1 hx hyx
            have RW : Rd RB (w8.setCell ⟨g8, i, none⟩ (.int .u8 (y.toNat : Int))).drew (.slice (some ⟨g8, 0, none⟩) 24 cap8) (sc.set i y) := Rd_reads RB_reads _ _ _ _ (rd_rowB (R8.out.setB (k := i) y).1 rfl) (Below.refl _ _).drew
            have TW : Hid (Below wX.heap.size wX (w8.setCell ⟨g8, i, none⟩ (.int .u8 (y.toNat : Int))).drew) := Lib.hid (t8.setCell (p := ⟨g8, i, none⟩) hg8 _).drew
            have OCB := Lib.hid (implOpenCell_c k c _ (sc.set i y) false _ RW (Lib.hid hob))
            have HFC : Hid (3 < c ∧ c < 900 → fcV k sc (c - 2) 5 = c) := Lib.hid (fun h => by rw [← HSC.out]; exact seal_find hs1 h.1 h.2)
            have HPL : Hid (plainOk m body = true) := Lib.hid (by
              unfold sealOk at hs1
              simp only [Bool.and_eq_true] at hs1
              exact hs1.2)
            have hcb : (c == (c + 1) % 1000) = false := by simp; omega
            have hkb : (k == 1 + (k + 5) % 1000) = false := by simp; omega
            clear hx A0 hs1 hy hob hyx RW
            go_wp2_with fail
            go_region_law (first
              | (go_simp; ((with_reducible refine (A1.out _ t8.drew).mono ?_); rintro e w' ⟨rfl, rfl⟩)))
            all_goals
              rw [HXV.out]
              generalize (w8.setCell ⟨g8, i, none⟩ (.int .u8 (y.toNat : Int))).drew = w9 at *
              go_wp2_with fail
              refine OCB.out.mono ?_
              rintro e w10 ⟨A10, l10, c10, rfl, F10⟩
              have t10 := TW.out.trans (F10.below.mono TW.out.size)
              have T11 := Lib.hid (t10.alloc t10.size (.cells #[.int .i64 (opnM k c (sc.set i y)), .slice A10 l10 c10] 58))
              clear t10 F10 OCB gx fx
              by_cases hc3 : 3 < c
              · by_cases hc9 : c < 900
                · have FC := implFindCounter_c k _ sc (c - 2) 5 _ (HK.out _ T11.out).2.2.1
                  have e5 : fcN 5 = 5 := rfl
                  rw [e5, HFC.out ⟨hc3, hc9⟩] at FC
                  have FCH := Lib.hid FC
                  have hwm : IntKind.i64.wrap (c - 2) = c - 2 := IntWalk.i64_in _ (by omega)
                  clear FC e5
                  go_wp2_with fail
                  refine FCH.out.mono ?_
                  rintro e w12 ⟨rfl, b12⟩
                  have T11 := Lib.hid (T11.out.trans (b12.mono T11.out.size))
                  clear b12 FCH
                  have tL := T11.out
                  have kc := HK.out _ tL
                  have q0 := kc.1.cell 0
                  have q1 := kc.1.cell 1
                  have p0 := kc.2.1.cell 0
                  have p1 := kc.2.1.cell 1
                  have SB := Lib.hid (sameB_c _ _ body _ kc.2.2.2.2.1 kc.2.2.2.1)
                  clear kc
                  go_wp2_with fail
                  refine SB.out.mono ?_
                  rintro e w20 ⟨rfl, b20⟩
                  have tL := tL.trans (b20.mono tL.size)
                  clear b20 SB
                  go_wp2_with fail
                  refine (A2.out _ tL).mono ?_
                  rintro e w' ⟨rfl, rfl⟩
                  go_wp2_with fail
                  refine (implCoverCell_c a2 _).mono ?_
                  rintro e w21 ⟨v21, rfl, F21⟩
                  have hl21 := ((F21.iv (Own_good FB_good)).rd (R' := RB) (fun q => q.rb))
                  obtain ⟨A21, l21, c21, rfl⟩ := fresh_slice F21
                  obtain rfl : 24 = l21 := by have := hl21.at_same.1; rw [show streamI (khash a2 [73]) 24 = stream (khash a2 [73]) 24 from rfl, stream_len] at this; exact this
                  have tL := tL.trans (F21.below.mono tL.size)
                  have kc := HK.out _ tL
                  have q0 := kc.1.cell 0
                  have q1 := kc.1.cell 1
                  have IP := Lib.hid (implIsValidPlain_c m _ body _ kc.2.2.2.2.1)
                  rw [HPL.out] at IP
                  have TL := Lib.hid tL
                  clear kc F21 hl21 tL
                  go_wp2_with fail
                  refine IP.out.mono ?_
                  rintro e w22 ⟨rfl, b22⟩
                  have tZ := (HK.out _ (TL.out.trans (b22.mono TL.out.size))).2.2.2.2.2
                  go_wp2
                  go_ret
                  exact ⟨rfl, tZ⟩
                · have tL := T11.out
                  have kc := HK.out _ tL
                  have q0 := kc.1.cell 0
                  have q1 := kc.1.cell 1
                  have p0 := kc.2.1.cell 0
                  have p1 := kc.2.1.cell 1
                  have SB := Lib.hid (sameB_c _ _ body _ kc.2.2.2.2.1 kc.2.2.2.1)
                  clear kc
                  go_wp2_with fail
                  refine SB.out.mono ?_
                  rintro e w20 ⟨rfl, b20⟩
                  have tL := tL.trans (b20.mono tL.size)
                  clear b20 SB
                  go_wp2_with fail
                  refine (A2.out _ tL).mono ?_
                  rintro e w' ⟨rfl, rfl⟩
                  go_wp2_with fail
                  refine (implCoverCell_c a2 _).mono ?_
                  rintro e w21 ⟨v21, rfl, F21⟩
                  have hl21 := ((F21.iv (Own_good FB_good)).rd (R' := RB) (fun q => q.rb))
                  obtain ⟨A21, l21, c21, rfl⟩ := fresh_slice F21
                  obtain rfl : 24 = l21 := by have := hl21.at_same.1; rw [show streamI (khash a2 [73]) 24 = stream (khash a2 [73]) 24 from rfl, stream_len] at this; exact this
                  have tL := tL.trans (F21.below.mono tL.size)
                  have kc := HK.out _ tL
                  have q0 := kc.1.cell 0
                  have q1 := kc.1.cell 1
                  have IP := Lib.hid (implIsValidPlain_c m _ body _ kc.2.2.2.2.1)
                  rw [HPL.out] at IP
                  have TL := Lib.hid tL
                  clear kc F21 hl21 tL
                  go_wp2_with fail
                  refine IP.out.mono ?_
                  rintro e w22 ⟨rfl, b22⟩
                  have tZ := (HK.out _ (TL.out.trans (b22.mono TL.out.size))).2.2.2.2.2
                  go_wp2
                  go_ret
                  exact ⟨rfl, tZ⟩
              · have tL := T11.out
                have kc := HK.out _ tL
                have q0 := kc.1.cell 0
                have q1 := kc.1.cell 1
                have p0 := kc.2.1.cell 0
                have p1 := kc.2.1.cell 1
                have SB := Lib.hid (sameB_c _ _ body _ kc.2.2.2.2.1 kc.2.2.2.1)
                clear kc
                go_wp2_with fail
                refine SB.out.mono ?_
                rintro e w20 ⟨rfl, b20⟩
                have tL := tL.trans (b20.mono tL.size)
                clear b20 SB
                go_wp2_with fail
                refine (A2.out _ tL).mono ?_
                rintro e w' ⟨rfl, rfl⟩
                go_wp2_with fail
                refine (implCoverCell_c a2 _).mono ?_
                rintro e w21 ⟨v21, rfl, F21⟩
                have hl21 := ((F21.iv (Own_good FB_good)).rd (R' := RB) (fun q => q.rb))
                obtain ⟨A21, l21, c21, rfl⟩ := fresh_slice F21
                obtain rfl : 24 = l21 := by have := hl21.at_same.1; rw [show streamI (khash a2 [73]) 24 = stream (khash a2 [73]) 24 from rfl, stream_len] at this; exact this
                have tL := tL.trans (F21.below.mono tL.size)
                have kc := HK.out _ tL
                have q0 := kc.1.cell 0
                have q1 := kc.1.cell 1
                have IP := Lib.hid (implIsValidPlain_c m _ body _ kc.2.2.2.2.1)
                rw [HPL.out] at IP
                have TL := Lib.hid tL
                clear kc F21 hl21 tL
                go_wp2_with fail
                refine IP.out.mono ?_
                rintro e w22 ⟨rfl, b22⟩
                have tZ := (HK.out _ (TL.out.trans (b22.mono TL.out.size))).2.2.2.2.2
                go_wp2
                go_ret
                exact ⟨rfl, tZ⟩
        · have hcn : cntOk c = false := decide_eq_false (fun h => hc1 h.2)
          have hokf : ok = false := by rw [← hsq, hk2, hcn]; rfl
          subst hokf
          obtain rfl := FAIL rfl
          clear hsq hk2
          go_wp2_with fail
          refine (KY.out _).mono ?_
          rintro e w' ⟨rfl, rfl⟩
          go_wp2
          go_ret
          exact ⟨rfl, T3⟩
      · have hcn : cntOk c = false := decide_eq_false (fun h => hc0 h.1)
        have hokf : ok = false := by rw [← hsq, hk2, hcn]; rfl
        subst hokf
        obtain rfl := FAIL rfl
        clear hsq hk2
        go_wp2_with fail
        refine (KY.out _).mono ?_
        rintro e w' ⟨rfl, rfl⟩
        go_wp2
        go_ret
        exact ⟨rfl, T3⟩
  · have HB := Lib.hid (big_t _ x0 w y0 hl)
    clear hl
    go_enter Try.func11, Try.ntmps11
    go_wp2_with fail
    refine HB.out.mono ?_
    rintro e w' ⟨rfl, rfl⟩
    go_wp2
    go_ret
    exact ⟨rfl, Below.refl _ _⟩
set_option maxRecDepth 100000 in
theorem lifted (os : Os) (started : os.Started) (H : Type) (enc : TypeId × Value → H) :
    ReturnsInHanded {} Try.checked os 11 .any (Rows.fnCellsSpec.pre6 enc Try.prog Try.f11 Rows.fnCellsRow.domain false) (Rows.fnCellsSpec.post enc Try.prog Try.f11 false true false false) := by
  refine returnsInHanded_of_change (C := Try.checked) own_ started (by kernel_rfl) Try.func11
    (ChangeSpec.witness6 (enc := enc) (C := Try.checked) false ⟨#[], #[.slice none 0 0], []⟩ 8 (by kernel_rfl) (by kernel_rfl) (by kernel_rfl) (by kernel_rfl)) ?_
  intro W base args ds gs before hval0 hW hcnd _
  have hval : ∀ (j : Nat) t v, Try.f11.params[j]? = some t → args[j]? = some v → Value.okWide Try.prog W .any base t v := hval0
  have hW' := hW
  obtain ⟨p, q, hA0, hV, rfl, hfz, hnd⟩ := hW
  have hA : DataW.TrodAll enc Try.prog W 0 (fun _ => true) true Try.f11.params.toList args.toList ds p := hA0
  rw [Try.params11] at hA hval
  obtain ⟨v0, vs0, d0, ds0, p0, q0, hargs, rfl, rfl, h0, r0⟩ := trodAll_cons hA
  obtain ⟨rfl, rfl, rfl⟩ := trodAll_nil r0
  obtain rfl : args = #[v0] := by cases args; simp_all
  obtain ⟨rfl, rfl⟩ := trodVars_none hV
  have k0 := h0
  have lt0 : ∀ x ∈ p0, x.block < W.heap.size := by obtain ⟨m, hm⟩ := k0; exact DataW.trod_lt m _ _ _ hm
  obtain ⟨x0, y0⟩ := open_val Try.underlying22 (opens_slice Try.underlying22 (by kernel_rfl) (opens_u8 Try.underlying5)) (hval 0 22 v0 rfl rfl) h0
  clear hA0 hval0
  refine (walk W v0 x0 y0).mono fun e W' ⟨he, bel⟩ => ?_
  subst he
  exact ⟨_, rfl, _, _, _, [], _, [], hW', trodAll_mk1 (shut_bool Try.underlying4 _), (trodAll_cons_mk (Below.trod laid_ (by kernel_rfl) (of_decide_eq_true (by kernel_rfl)) k0 bel lt0) trodAll_mk0), rfl, bel.frame _, fun h => by cases h⟩

theorem over : Rows.fnCellsRow.holds Try.pinned (OpenSpec.ofChange Rows.fnCellsSpec) :=
  OpenClaim.holds_of_wide 11 Try.f11 rfl rfl rfl rfl rfl rfl rfl ⟨rfl, rfl, rfl, rfl, rfl⟩ rfl rfl rfl rfl rfl (by kernel_rfl) Try.func11 (by kernel_rfl)
    (of_decide_eq_true (by kernel_rfl)) (by unfold Func.isWrapper; first | (rw [if_pos (by decide +kernel)]; kernel_rfl) | (rw [if_neg (by decide +kernel)]; exact ⟨rfl, rfl⟩))
    (fun os started H enc _ => lifted os started H enc)

theorem proved : Rows.FnCellsSaid := over
end Go.Proofs.Ytokhogdocaeelaa.fnCells
