/- FnPointReading, for every argument, no condition: a row is read with point keys from two servers. -/
import Derived.Test.YtceogegjghmonaaPkLaw
import Derived.Test.YtceogegjghmonaaAt
import Derived.Test.YtceogegjghmonaaSame
import Derived.Test.YtceogegjghmonaaAqAlg
import Derived.Test.YtceogegjghmonaaRowAt
import Derived.Test.YtceogegjghmonaaDb
import Derived.Test.YtceogegjghmonaaShallow
import Derived.Test.YtceogegjghmonaaComb
import Derived.Test.YtceogegjghmonaaCur
namespace Go.Proofs.Ytceogegjghmonaa.fnPointReading
set_option linter.unusedVariables false
open Go.RowKit Go.ChangeShapes Go.WideShapes Go.ChangeAt

/-- The two answers join to the row. -/
theorem pr_law {d : List (List UInt8)} {ea eb : List Int} {p : Nat} {x : List UInt8} (hd : d.length = 8) (hL : LenB 24 d) (hx : d[p]? = some x) (ha : S 8 ea) (hb : S 8 eb) (hu : unitOk ((8 : Nat) : Int) (p : Int) = true) (h : xorSel ea eb = unitSel ((8 : Nat) : Int) (p : Int)) :
    (aq d ea).length = 24 ∧ (aq d eb).length = 24 ∧ cmbOk [aq d ea, aq d eb] = true ∧ cmb [aq d ea, aq d eb] = x := by
  have ok := dbOk_of (d := d) (by omega) hL
  have l1 := aq_len24 hd ok ha
  have l2 := aq_len24 hd ok hb
  have hc : cmbOk [aq d ea, aq d eb] = true := by
    rw [cmbOk_of (by simp)]
    simp [ne24_f l1, ne24_f l2]
  refine ⟨l1, l2, hc, ?_⟩
  rw [cmb_yes hc, xorAll_cons, xorAll_cons]
  show xorB (aq d ea) (xorB (aq d eb) []) = x
  rw [xorB_nil, ← aq_add hd ok ha hb, h, aq_unit (n := 8) hd ok hu hx]

set_option maxHeartbeats 1000000 in
set_option maxRecDepth 100000 in
theorem walk (w : World) (v0 : Value) (x0 : List UInt8) (y0 : Rd RB w v0 x0) :
    Calls Try.prog 7 #[v0] w fun e w' => e = .returned (.bool true) ∧ Below w.heap.size w w' := by
  by_cases hl : x0.length ≤ 1048576
  · have HB := Lib.hid (big_f _ x0 w y0 hl)
    have AT : Hid (∀ i : Int, ∀ W, Below w.heap.size w W → 0 ≤ i → i ≤ 1000000 → Calls Try.prog 27 #[v0, .int .i64 i] W fun e w' => e = .returned (.int .i64 (atI x0 i)) ∧ W = w') := Lib.hid (fun i W hb h0 h1 => at_c _ x0 i W (Rd_reads RB_reads _ _ _ _ y0 hb) hl h0 h1)
    have b0 := atI_bd x0 0
    have b1 := atI_bd x0 1
    have b2 := atI_bd x0 2
    obtain ⟨a0, e0⟩ : ∃ a, atI x0 0 = a := ⟨_, rfl⟩
    obtain ⟨a1, e1⟩ : ∃ a, atI x0 1 = a := ⟨_, rfl⟩
    obtain ⟨a2, e2⟩ : ∃ a, atI x0 2 = a := ⟨_, rfl⟩
    rw [e0] at b0
    rw [e1] at b1
    rw [e2] at b2
    have E0 := Lib.hid e0
    have E1 := Lib.hid e1
    have E2 := Lib.hid e2
    have ND := Lib.hid (implNewDatabase_c 8 w (by omega) (by omega))
    clear e0 e1 e2 y0 hl
    obtain ⟨p, hp⟩ : ∃ p : Nat, a0 % 8 = (p : Int) := ⟨(a0 % 8).toNat, by omega⟩
    have hp8 : p < 8 := by omega
    have KL := keys_law a1 (a2 + 1000) (p : Int) 3 (by omega) (by omega) ⟨by omega, by omega⟩ ⟨by omega, by omega⟩ (by omega) (by omega)
    have MP : Hid (∀ W, Calls Try.prog 44 #[.int .i64 3, .int .i64 (p : Int), .int .i64 a1, .int .i64 (a2 + 1000)] W (MkFin W a1 (a2 + 1000) 3 (kcs a1 (a2 + 1000) (p : Int) 3 3))) := Lib.hid (fun W => implMpk_c 3 (p : Int) a1 (a2 + 1000) W (by omega) (by omega) (by omega) (by omega) (by omega) (by omega) (by omega) (by omega))
    have kl := kcs_len a1 (a2 + 1000) (p : Int) 3 3
    generalize kcs a1 (a2 + 1000) (p : Int) 3 3 = K at *
    obtain ⟨sa, sb, hu, hxs, _⟩ := KL
    obtain ⟨rb, hrb⟩ : ∃ rb, a2 + 1000 = rb := ⟨_, rfl⟩
    rw [hrb] at sb hxs MP
    have HSA := Lib.hid sa
    have HSB := Lib.hid sb
    have HU := Lib.hid hu
    have HXS := Lib.hid hxs
    have HKL := Lib.hid kl
    clear sa sb hu hxs kl
    go_enter Try.func7, Try.ntmps7
    go_wp2_with fail
    refine HB.out.mono ?_
    rintro e w' ⟨rfl, rfl⟩
    go_wp2_with fail
    refine ND.out.mono ?_
    rintro e w1 ⟨A, l, c, rfl, F1⟩
    have hnd : newDb 8 = List.replicate 8 zcell := rfl
    rw [hnd] at F1
    have N1 := F1.nrow
    have B1 := F1.below
    have hs1 := B1.size
    obtain ⟨g, rfl, hgB, hgl, hlc⟩ : ∃ g, A = some ⟨g, 0, none⟩ ∧ w.heap.size ≤ g ∧ g < w1.heap.size ∧ l = 8 := by
      rcases N1.form with ⟨_, h0⟩ | ⟨g, cap, hh, _, _, h3, h4⟩
      · simp at h0
      · injection hh with e1 e2 e3
        exact ⟨g, e1, h3, h4, by simpa using e2⟩
    subst hlc
    have NQ := Lib.hid ((N1.nrq (Q := fun b => w.heap.size ≤ b ∧ b < w1.heap.size) (Own_good FB_good) (fun b hb hlt => ⟨hb, hlt⟩)).below (Own_good FB_good) (below_alloc w1 (.cells #[.slice (some ⟨g, 0, none⟩) 8 c] 26)))
    have B2 := Lib.hid (B1.alloc B1.size (.cells #[.slice (some ⟨g, 0, none⟩) 8 c] 26))
    have BX := Lib.hid (Box.new w1 26 #[.slice (some ⟨g, 0, none⟩) 8 c])
    have HL0 : Hid (LenB 24 (List.replicate 8 zcell)) := Lib.hid (fun x hx => by rw [(List.mem_replicate.1 hx).2]; exact zcell_len)
    clear F1 N1 hnd B1
    go_wp2_with fail
    generalize hw2 : w1.alloc (.cells #[.slice (some ⟨g, 0, none⟩) 8 c] 26) = w2 at *
    have hs2 : w1.heap.size < w2.heap.size := BX.out.lt
    have hbx : ∀ W, KeepQ (fun b => w.heap.size ≤ b ∧ b < w1.heap.size) w2 W → W.cell? ⟨w1.heap.size, 0, none⟩ = some (.slice (some ⟨g, 0, none⟩) 8 c) := fun W h => Box.cell (show Box W w1.heap.size 26 #[.slice (some ⟨g, 0, none⟩) 8 c] from (h.block w1.heap.size BX.out.lt (fun q => by omega)).trans BX.out) 0
    have HBX := Lib.hid hbx
    clear hw2 hbx
    go_loopw [4] (fun o wr => ∃ (i : Nat) (ds : List (List UInt8)), i ≤ 8 ∧ o = .int .i64 i ∧ Hid (ds.length = 8 ∧ LenB 24 ds) ∧ Hid (NRQ 22 (Own 5 FB) (fun b => w.heap.size ≤ b ∧ b < w1.heap.size) wr (.slice (some ⟨g, 0, none⟩) 8 c) 8 ds ∧ KeepQ (fun b => w.heap.size ≤ b ∧ b < w1.heap.size) w2 wr)) (fun o _ => 8 - (intOf o).toNat)
    case atStart => exact ⟨0, _, Nat.zero_le _, rfl, Lib.hid ⟨by simp, HL0.out⟩, Lib.hid ⟨NQ.out, KeepQ.refl _ _⟩⟩
    case round =>
      obtain ⟨i, ds, hi, rfl, HD, HN⟩ := hrel
      have cb := HBX.out _ HN.out.2
      by_cases hlt : i < 8
      · rename World => wo
        have hi0 : (0 : Int) ≤ (i : Int) := by omega
        have hi8 : (i : Int) < 8 := by omega
        go_wp2_with fail
        go_loopw [5] (fun o wr => ∃ (k : Nat) (ds : List (List UInt8)), k ≤ 24 ∧ o = .int .i64 k ∧ Hid (ds.length = 8 ∧ LenB 24 ds) ∧ Hid (NRQ 22 (Own 5 FB) (fun b => w.heap.size ≤ b ∧ b < w1.heap.size) wr (.slice (some ⟨g, 0, none⟩) 8 c) 8 ds ∧ KeepQ (fun b => w.heap.size ≤ b ∧ b < w1.heap.size) w2 wr)) (fun o _ => 24 - (intOf o).toNat)
        case atStart => exact ⟨0, ds, Nat.zero_le _, rfl, HD, HN⟩
        case round =>
          clear cb HD HN
          obtain ⟨k, ds, hk, rfl, HD, HN⟩ := hrel
          have cb := HBX.out _ HN.out.2
          obtain ⟨x, hx⟩ : ∃ x, ds[i]? = some x := ⟨_, List.getElem?_eq_getElem (by rw [HD.out.1]; exact hlt)⟩
          have hxl : x.length = 24 := HD.out.2 x (List.mem_of_getElem? hx)
          obtain ⟨u, q1, q2, q3, q4, q5, q6, _, q8⟩ := HN.out.1.rowAtB hx
          rw [hxl] at q4
          obtain ⟨gk, ck, rfl⟩ : ∃ gk ck, u = .slice (some ⟨gk, 0, none⟩) 24 ck := by
            rcases q4.2 with ⟨_, h0⟩ | ⟨g', cc, cur, hh, _⟩
            · omega
            · exact ⟨g', cc, hh⟩
          by_cases hlt2 : k < 24
          · have hgk := q5 gk rfl
            have hgks : gk < wr.heap.size := (q4.lt gk rfl).2
            obtain ⟨z, hz⟩ : ∃ z, x[k]? = some z := ⟨_, List.getElem?_eq_getElem (by rw [hxl]; exact hlt2)⟩
            have cst0 := q4.cellAt k (by omega)
            have cst : wr.drew.cell? ⟨gk, k, none⟩ = some (.int .u8 (z.toNat : Int)) := cst0.trans (by rw [List.getElem?_map, hz]; rfl)
            have fst_ : wr.drew.frozen? ⟨gk, k, none⟩ = false := q4.frozenAt k
            have c1 : wr.drew.cell? ⟨g, i, none⟩ = some (.slice (some ⟨gk, 0, none⟩) 24 ck) := q1
            have c0 : wr.drew.cell? ⟨w1.heap.size, 0, none⟩ = some (.slice (some ⟨g, 0, none⟩) 8 c) := cb
            have hk0 : (0 : Int) ≤ (k : Int) := by omega
            have hk24 : (k : Int) < 24 := by omega
            have Br : Below w.heap.size w wr.drew := (HN.out.2.below (fun k hk q => by omega) (by omega) B2.out).drew
            have bb := atI_bd x0 ((i : Int) * 3 + (k : Int))
            have A1 := Lib.hid (AT.out ((i : Int) * 3 + (k : Int)) _ Br (by omega) (by omega))
            obtain ⟨b, hb⟩ : ∃ b, atI x0 ((i : Int) * 3 + (k : Int)) = b := ⟨_, rfl⟩
            rw [hb] at A1 bb
            have hv8 := u8_of b (by omega)
            have hwb : IntKind.u8.wrap b = b := IntWalk.u8_in b bb
            have hw1 : IntKind.i64.wrap ((i : Int) * 3) = (i : Int) * 3 := IntWalk.i64_in _ (by omega)
            have hw2 : IntKind.i64.wrap ((i : Int) * 3 + (k : Int)) = (i : Int) * 3 + (k : Int) := IntWalk.i64_in _ (by omega)
            have N5 := q8 gk k (UInt8.ofNat b.toNat) rfl
            rw [hv8] at N5
            have K5 := HN.out.2.set (p := ⟨gk, k, none⟩) hgk.1 (.int .u8 b)
            have HD5 : Hid ((ds.set i (x.set k (UInt8.ofNat b.toNat))).length = 8 ∧ LenB 24 (ds.set i (x.set k (UInt8.ofNat b.toNat)))) := Lib.hid ⟨by rw [List.length_set]; exact HD.out.1, fun y hy => by
              rcases List.mem_or_eq_of_mem_set hy with h | h
              · exact HD.out.2 y h
              · rw [h, List.length_set, hxl]⟩
            have HF : Hid (NRQ 22 (Own 5 FB) (fun b => w.heap.size ≤ b ∧ b < w1.heap.size) (wr.setCell ⟨gk, k, none⟩ (.int .u8 b)).drew (.slice (some ⟨g, 0, none⟩) 8 c) 8 (ds.set i (x.set k (UInt8.ofNat b.toNat))) ∧ KeepQ (fun b => w.heap.size ≤ b ∧ b < w1.heap.size) w2 (wr.setCell ⟨gk, k, none⟩ (.int .u8 b)).drew) := Lib.hid (And.intro (N5.below (Own_good FB_good) (Below.refl _ _).drew) (K5.drewN 1))
            have kf : (wr.drew.setCell ⟨gk, k, none⟩ (.int .u8 b)).cell? ⟨w1.heap.size, 0, none⟩ = some (.slice (some ⟨g, 0, none⟩) 8 c) ∧ (wr.drew.setCell ⟨gk, k, none⟩ (.int .u8 b)).cell? ⟨g, i, none⟩ = some (.slice (some ⟨gk, 0, none⟩) 24 ck) := ⟨(World.cell?_of_block (a := ⟨w1.heap.size, 0, none⟩) (Below.heap_setCell wr.drew ⟨gk, k, none⟩ (.int .u8 b) w1.heap.size (by show w1.heap.size ≠ gk; have := hgk.1.2; omega))).trans c0, (World.cell?_of_block (a := ⟨g, i, none⟩) (Below.heap_setCell wr.drew ⟨gk, k, none⟩ (.int .u8 b) g (by show g ≠ gk; exact fun e => hgk.2 e.symm))).trans c1⟩
            clear hx hxl q4 q5 q6 q8 hz N5 K5 cst0 hb
            go_wp2_with fail
            go_region_held3 (fun w' => w'.cell? ⟨w1.heap.size, 0, none⟩ = some (.slice (some ⟨g, 0, none⟩) 8 c) ∧ w'.cell? ⟨g, i, none⟩ = some (.slice (some ⟨gk, 0, none⟩) 24 ck))
              (first | (exact ⟨c0, c1⟩) | (exact kf) | go_keep)
              (first | (go_at_call 27; ((with_reducible refine A1.out.mono ?_); rintro e wa ⟨rfl, rfl⟩)))
            all_goals
              go_wp2
              go_roundw
              case rel => exact ⟨k + 1, _, by omega, by go_num, HD5, HF⟩
              case measure => simp [intOf]; omega
          · obtain rfl : k = 24 := by omega
            clear hx hxl q4 q5 q6 q8
            go_wp2
            go_roundw
            case rel => exact ⟨i + 1, ds, by omega, by go_num, HD, HN⟩
            case measure => simp [intOf]; omega
      · obtain rfl : i = 8 := by omega
        have NR := HN.out.1.nrow (B := 0) (fun b _ => Nat.zero_le _)
        have rd : Rd (Rd RB) wr (.slice (some ⟨g, 0, none⟩) 8 c) ds := NR.rd (R' := Rd RB) (fun q => q.rd (fun z => z.rb))
        have tL : Below w.heap.size w wr := HN.out.2.below (fun k hk q => by omega) (by omega) B2.out
        have BD : Hid (Box wr w1.heap.size 26 #[.slice (some ⟨g, 0, none⟩) 8 c]) := Lib.hid ((HN.out.2.block w1.heap.size BX.out.lt (fun q => by omega)).trans BX.out)
        have hDD : ∀ W, Below wr.heap.size wr W → W.cell? ⟨w1.heap.size, 0, none⟩ = some (.slice (some ⟨g, 0, none⟩) 8 c) ∧ Rd (Rd RB) W (.slice (some ⟨g, 0, none⟩) 8 c) ds := fun W hW => ⟨(BD.out.below hW BD.out.lt).cell 0, Rd_reads (Rd_reads RB_reads) _ _ _ _ rd hW⟩
        have DD := Lib.hid hDD
        generalize w1.heap.size = gd at *
        clear NR rd hDD BD HN NQ B2 BX cb hs1 hs2 hgB hgl HL0 HBX
        obtain ⟨x, hx⟩ : ∃ x, ds[p]? = some x := ⟨_, List.getElem?_eq_getElem (by rw [HD.out.1]; exact hp8)⟩
        have PR := Lib.hid (pr_law HD.out.1 HD.out.2 hx HSA.out HSB.out HU.out HXS.out)
        have HX := Lib.hid hx
        have htt : tot ds ≤ 1048576 := by
          have h1 := sumL_le24 ds HD.out.2
          unfold tot
          have := HD.out.1
          omega
        clear hx
        have cb := (DD.out _ (Below.refl _ _)).1
        go_wp2_with fail
        refine (AT.out 0 _ tL (by omega) (by omega)).mono ?_
        rintro e w' ⟨rfl, rfl⟩
        rw [E0.out]
        go_wp2_with fail
        refine (AT.out 1 _ tL (by omega) (by omega)).mono ?_
        rintro e w' ⟨rfl, rfl⟩
        rw [E1.out]
        go_wp2_with fail
        refine (AT.out 2 _ tL (by omega) (by omega)).mono ?_
        rintro e w' ⟨rfl, rfl⟩
        rw [E2.out]
        go_wp2_with fail
        refine (MP.out _).mono ?_
        rintro e w3 ⟨A1, l1, c1, A2, l2, c2, rfl, o1, o2, _, _, _, bM⟩
        have T1 := tL.trans (bM.mono tL.size)
        obtain ⟨KA, KB, bX⟩ := HeldK_two (ra := a1) (rb := rb) HKL.out o1 o2
        have bW0 := bM.trans (bX.mono bM.size)
        have T2 := T1.trans (bX.mono T1.size)
        have tw := Below.refl (((w3.alloc (.cells #[.int .i64 a1, .int .i64 0, .slice A1 l1 c1] 63)).alloc (.cells #[.int .i64 rb, .int .i64 1, .slice A2 l2 c2] 63)).heap.size) ((w3.alloc (.cells #[.int .i64 a1, .int .i64 0, .slice A1 l1 c1] 63)).alloc (.cells #[.int .i64 rb, .int .i64 1, .slice A2 l2 c2] 63))
        have HKa := Lib.hid KA
        have HKb := Lib.hid KB
        have D2 : Hid (∀ W, Below ((w3.alloc (.cells #[.int .i64 a1, .int .i64 0, .slice A1 l1 c1] 63)).alloc (.cells #[.int .i64 rb, .int .i64 1, .slice A2 l2 c2] 63)).heap.size ((w3.alloc (.cells #[.int .i64 a1, .int .i64 0, .slice A1 l1 c1] 63)).alloc (.cells #[.int .i64 rb, .int .i64 1, .slice A2 l2 c2] 63)) W → W.cell? ⟨gd, 0, none⟩ = some (.slice (some ⟨g, 0, none⟩) 8 c) ∧ Rd (Rd RB) W (.slice (some ⟨g, 0, none⟩) 8 c) ds) := Lib.hid (fun W hW => DD.out W (bW0.trans (hW.mono bW0.size)))
        have kd := (D2.out _ tw).1
        clear KA KB o1 o2 bX bM T1 bW0
        go_wp2_with fail
        generalize hW0 : ((w3.alloc (.cells #[.int .i64 a1, .int .i64 0, .slice A1 l1 c1] 63)).alloc (.cells #[.int .i64 rb, .int .i64 1, .slice A2 l2 c2] 63)) = W0 at *
        generalize w3.heap.size = gk at *
        clear hW0
        have C1 : Hid (∀ W, Below W0.heap.size W0 W → Calls Try.prog 45 #[.agg #[.int .i64 a1, .int .i64 0, .slice A1 l1 c1]] W fun e w' => ∃ v', e = .returned v' ∧ Rd RI w' v' (evAll a1 0 K) ∧ Below W.heap.size W w') := Lib.hid (fun W hW => (implEvAll_c a1 0 _ K W (HKa.out W hW).2).mono (by
          rintro e w' ⟨v', rfl, F⟩
          exact ⟨v', rfl, (F.iv (Own_good FI_good)).rd (R' := RI) (fun q => q.ri), F.below⟩))
        have C2 : Hid (∀ W, Below W0.heap.size W0 W → Calls Try.prog 45 #[.agg #[.int .i64 rb, .int .i64 1, .slice A2 l2 c2]] W fun e w' => ∃ v', e = .returned v' ∧ Rd RI w' v' (evAll rb 1 K) ∧ Below W.heap.size W w') := Lib.hid (fun W hW => (implEvAll_c rb 1 _ K W (HKb.out W hW).2).mono (by
          rintro e w' ⟨v', rfl, F⟩
          exact ⟨v', rfl, (F.iv (Own_good FI_good)).rd (R' := RI) (fun q => q.ri), F.below⟩))
        have AQ : Hid (∀ W v s, Below W0.heap.size W0 W → Rd RI W v s → (aq ds s).length = 24 → Calls Try.prog 18 #[.agg #[.slice (some ⟨g, 0, none⟩) 8 c], v] W fun e w' => ∃ A c, e = .returned (.slice A 24 c) ∧ Rd RB w' (.slice A 24 c) (aq ds s) ∧ Below W.heap.size W w') := Lib.hid (fun W v s hW hr hl => (implAq_c _ v ds s W (D2.out W hW).2 hr htt).mono (by
          rintro e w' ⟨v', rfl, F⟩
          have rd : Rd RB w' v' (aq ds s) := (F.iv (Own_good FB_good)).rd (R' := RB) (fun q => q.rb)
          have hb := F.below
          obtain ⟨A, l, c, rfl⟩ := fresh_slice F
          obtain rfl : 24 = l := by have := rd.at_same.1; omega
          exact ⟨A, c, rfl, rd, hb⟩))
        have CB : Hid (∀ W A c A' c', Rd RB W (.slice A 24 c) (aq ds (evAll a1 0 K)) → Rd RB W (.slice A' 24 c') (aq ds (evAll rb 1 K)) → Calls Try.prog 19 #[.slice (some ⟨W.heap.size, 0, none⟩) 2 2] (W.alloc (.cells #[.slice A 24 c, .slice A' 24 c'] 22)) fun e w' => ∃ v', e = .returned (.tuple #[v', .bool true]) ∧ Rd RB w' v' x ∧ Below W.heap.size W w') := Lib.hid (fun W A c A' c' h1 h2 => by
          have bA := below_alloc W (.cells #[.slice A 24 c, .slice A' 24 c'] 22)
          have rl : Rd (Rd RB) (W.alloc (.cells #[.slice A 24 c, .slice A' 24 c'] 22)) (.slice (some ⟨W.heap.size, 0, none⟩) 2 2) ([aq ds (evAll a1 0 K)] ++ [aq ds (evAll rb 1 K)]) := rd_zip (Row_lit (E := 22) (B := W.heap.size) W #[.slice A 24 c, .slice A' 24 c'] (Nat.le_refl _) (by simp [maxLen])).1 rfl ((Zip.one (Rd_reads RB_reads _ _ _ _ h1 bA)).app (Zip.one (Rd_reads RB_reads _ _ _ _ h2 bA)))
          refine (implComb_c _ _ true _ rl (Lib.hid PR.out.2.2.1) (by have h1 := PR.out.1; have h2 := PR.out.2.1; simp [tot, sumL]; omega)).mono ?_
          rintro e w' ⟨v', rfl, F⟩
          have hc := PR.out.2.2.2
          rw [show [aq ds (evAll a1 0 K)] ++ [aq ds (evAll rb 1 K)] = [aq ds (evAll a1 0 K), aq ds (evAll rb 1 K)] from rfl, hc] at F
          exact ⟨v', rfl, (F.iv (Own_good FB_good)).rd (R' := RB) (fun q => q.rb), bA.trans (F.below.mono bA.size)⟩)
        have KC : Hid (∀ W, Below W0.heap.size W0 W → W.cell? ⟨gk, 0, none⟩ = some (.int .i64 a1) ∧ W.cell? ⟨gk, 1, none⟩ = some (.int .i64 0) ∧ W.cell? ⟨gk, 2, none⟩ = some (.slice A1 l1 c1) ∧ W.cell? ⟨gk + 1, 0, none⟩ = some (.int .i64 rb) ∧ W.cell? ⟨gk + 1, 1, none⟩ = some (.int .i64 1) ∧ W.cell? ⟨gk + 1, 2, none⟩ = some (.slice A2 l2 c2) ∧ W.cell? ⟨gd, 0, none⟩ = some (.slice (some ⟨g, 0, none⟩) 8 c)) := Lib.hid (fun W hW => ⟨(HKa.out W hW).1.1, (HKa.out W hW).1.2.1, (HKa.out W hW).1.2.2, (HKb.out W hW).1.1, (HKb.out W hW).1.2.1, (HKb.out W hW).1.2.2, (D2.out W hW).1⟩)
        have tL := tw.drew
        have kc := KC.out _ tL
        have n1 := PR.out.1
        have n2 := PR.out.2.1
        have N1 := Lib.hid n1
        have N2 := Lib.hid n2
        clear HKa HKb DD MP AT kd n1 n2 cb
        go_wp2_with fail
        go_region_held3 (fun w' => w'.cell? ⟨gk, 0, none⟩ = some (.int .i64 a1) ∧ w'.cell? ⟨gk, 1, none⟩ = some (.int .i64 0) ∧ w'.cell? ⟨gk, 2, none⟩ = some (.slice A1 l1 c1) ∧ w'.cell? ⟨gk + 1, 0, none⟩ = some (.int .i64 rb) ∧ w'.cell? ⟨gk + 1, 1, none⟩ = some (.int .i64 1) ∧ w'.cell? ⟨gk + 1, 2, none⟩ = some (.slice A2 l2 c2) ∧ w'.cell? ⟨gd, 0, none⟩ = some (.slice (some ⟨g, 0, none⟩) 8 c))
          (first | (exact kc) | go_keep)
          (first
            | (go_at_call 45; ((with_reducible refine (C1.out _ tL).mono ?_); rintro e wa ⟨va, rfl, ra_, ba⟩; have tL := tL.trans (ba.mono tL.size); have kc := KC.out _ tL))
            | (go_at_call 18; ((with_reducible refine (AQ.out _ _ _ tL ra_ N1.out).mono ?_); rintro e wa ⟨Aa, ca, rfl, rya, ba⟩; have tL := tL.trans (ba.mono tL.size); have kc := KC.out _ tL))
            | (go_at_call 45; ((with_reducible refine (C2.out _ tL).mono ?_); rintro e wa ⟨vb, rfl, rb_, ba⟩; have rya := Rd_reads RB_reads _ _ _ _ rya ba; have tL := tL.trans (ba.mono tL.size); have kc := KC.out _ tL))
            | (go_at_call 18; ((with_reducible refine (AQ.out _ _ _ tL rb_ N2.out).mono ?_); rintro e wa ⟨Ab, cb, rfl, ryb, ba⟩; have rya := Rd_reads RB_reads _ _ _ _ rya ba; have tL := tL.trans (ba.mono tL.size); have kc := KC.out _ tL))
            | (go_at_call 19; ((with_reducible refine (CB.out _ _ _ _ _ rya ryb).mono ?_); rintro e wa ⟨vc, rfl, rc_, ba⟩; have tL := tL.trans (ba.mono tL.size); have kc := KC.out _ tL)))
        all_goals
          have kd2 := (D2.out _ tL).1
          obtain ⟨bb, off, y', u, hA, hbb, hy', hu, hru⟩ := (D2.out _ tL).2.at_same.at_ hp8
          obtain rfl : x = y' := by have := HX.out; rw [this] at hy'; injection hy'
          injection hA with hA
          injection hA with hA1 hA2
          subst hA1 hA2
          rw [Nat.zero_add] at hu
          have SB := Lib.hid (sameB_c _ _ x _ rc_ hru)
          have T3 := T2.trans (tL.mono T2.size)
          have hp0 : (0 : Int) ≤ (p : Int) := by omega
          have hp88 : (p : Int) < 8 := by omega
          clear hru hy' rc_
          go_wp2_with fail
          refine SB.out.mono ?_
          rintro e w9 ⟨rfl, b9⟩
          go_wp2
          go_ret
          exact ⟨rfl, T3.trans (b9.mono T3.size)⟩
  · have HB := Lib.hid (big_t _ x0 w y0 hl)
    clear y0 hl
    go_enter Try.func7, Try.ntmps7
    go_wp2_with fail
    refine HB.out.mono ?_
    rintro e w' ⟨rfl, rfl⟩
    go_wp2
    go_ret
    exact ⟨rfl, Below.refl _ _⟩

set_option maxRecDepth 100000 in
theorem lifted (os : Os) (started : os.Started) (H : Type) (enc : TypeId × Value → H) :
    ReturnsInHanded {} Try.checked os 7 .any (Rows.fnPointReadingSpec.pre6 enc Try.prog Try.f7 Rows.fnPointReadingRow.domain false) (Rows.fnPointReadingSpec.post enc Try.prog Try.f7 false true false false) := by
  refine returnsInHanded_of_change (C := Try.checked) own_ started (by kernel_rfl) Try.func7
    (ChangeSpec.witness6 (enc := enc) (C := Try.checked) false ⟨#[], #[.slice none 0 0], []⟩ 8 (by kernel_rfl) (by kernel_rfl) (by kernel_rfl) (by kernel_rfl)) ?_
  intro W base args ds gs before hval0 hW hcnd _
  have hval : ∀ (j : Nat) t v, Try.f7.params[j]? = some t → args[j]? = some v → Value.okWide Try.prog W .any base t v := hval0
  have hW' := hW
  obtain ⟨p, q, hA0, hV, rfl, hfz, hnd⟩ := hW
  have hA : DataW.TrodAll enc Try.prog W 0 (fun _ => true) true Try.f7.params.toList args.toList ds p := hA0
  rw [Try.params7] at hA hval
  obtain ⟨v0, vs0, d0, ds0, p0, q0, hargs, rfl, rfl, h0, r0⟩ := trodAll_cons hA
  obtain ⟨rfl, rfl, rfl⟩ := trodAll_nil r0
  obtain rfl : args = #[v0] := by cases args; simp_all
  obtain ⟨rfl, rfl⟩ := trodVars_none hV
  have k0 := h0
  have lt0 : ∀ x ∈ p0, x.block < W.heap.size := by obtain ⟨m, hm⟩ := k0; exact DataW.trod_lt m _ _ _ hm
  obtain ⟨x0, y0⟩ := open_val Try.underlying22 (opens_slice Try.underlying22 (by kernel_rfl) (opens_u8 Try.underlying5)) (hval 0 22 v0 rfl rfl) h0
  clear hA0 hval0
  refine (walk W v0 x0 y0).mono fun e W' ⟨he, bel⟩ => ?_
  subst he
  exact ⟨_, rfl, _, _, _, [], _, [], hW', trodAll_mk1 (shut_bool Try.underlying4 _), (trodAll_cons_mk (Below.trod laid_ (by kernel_rfl) (of_decide_eq_true (by kernel_rfl)) k0 bel lt0) trodAll_mk0), rfl, bel.frame _, fun h => by cases h⟩

theorem over : Rows.fnPointReadingRow.holds Try.pinned (OpenSpec.ofChange Rows.fnPointReadingSpec) :=
  OpenClaim.holds_of_wide 7 Try.f7 rfl rfl rfl rfl rfl rfl rfl ⟨rfl, rfl, rfl, rfl, rfl⟩ rfl rfl rfl rfl rfl (by kernel_rfl) Try.func7 (by kernel_rfl)
    (of_decide_eq_true (by kernel_rfl)) (by unfold Func.isWrapper; first | (rw [if_pos (by decide +kernel)]; kernel_rfl) | (rw [if_neg (by decide +kernel)]; exact ⟨rfl, rfl⟩))
    (fun os started H enc _ => lifted os started H enc)

theorem proved : Rows.FnPointReadingSaid := over
end Go.Proofs.Ytceogegjghmonaa.fnPointReading
