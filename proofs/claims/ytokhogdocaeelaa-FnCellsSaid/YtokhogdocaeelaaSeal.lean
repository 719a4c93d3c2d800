/- SealCell of both sides. -/
import Derived.Test.YtokhogdocaeelaaSealP
import Derived.Test.YtokhogdocaeelaaBoxes
import Derived.Test.YtokhogdocaeelaaKeep
import Derived.Test.YtokhogdocaeelaaShallow
import Derived.Deep.RegionLaw
namespace Go.Proofs.Ytokhogdocaeelaa
set_option linter.unusedVariables false
open Go.RowKit

set_option maxHeartbeats 1000000 in
set_option maxRecDepth 100000 in
theorem implSealY_c (k c m : Int) (v : Value) (body : List UInt8) (w : World) (h : Rd RB w v body) (hok : sealOk k c m body = true) :
    Calls Try.prog 52 #[.int .i64 k, .int .i64 c, .agg #[.int .i64 m, v]] w fun e w' => ∃ v', e = .returned (.tuple #[v', .bool true]) ∧ Fresh (Own 5 FB) w w' v' (sealC k c m body) := by
  have hh := hok
  unfold sealOk plainOk at hh
  simp only [Bool.and_eq_true, decide_eq_true_eq] at hh
  obtain ⟨⟨hk, hc⟩, hm1, hm2, hb⟩ := hh
  have hc2 := of_decide_eq_true hc
  have IK : Hid (∀ W, Calls Try.prog 90 #[.int .i64 k] W fun e w' => e = .returned (.bool true) ∧ W = w') := Lib.hid (fun W => by have := implKey_c k W; rwa [hk] at this)
  have IP : Hid (∀ W, Rd RB W v body → Calls Try.prog 58 #[.agg #[.int .i64 m, v]] W fun e w' => e = .returned (.bool true) ∧ Below W.heap.size W w') := Lib.hid (fun W hW => by have := implIsValidPlain_c m v body W hW; rwa [show plainOk m body = true from decide_eq_true ⟨hm1, hm2, hb⟩] at this)
  have hes : sealC k c m body = sealD k c m body ++ ckB (cellCk k c (sealD k c m body)) := by unfold sealC; rw [if_pos hok]
  have HES := Lib.hid hes
  obtain ⟨A, n, cc, rfl, h'⟩ := h
  obtain rfl := h'.1
  have bx := below_alloc w (.cells #[.int .i64 m, .slice A body.length cc] 58)
  have BX := Lib.hid (Box.new w 58 #[.int .i64 m, .slice A body.length cc])
  have H : Hid (∀ W, Below w.heap.size w W → Rd RB W (.slice A body.length cc) body) := Lib.hid (fun W hW => Rd_reads RB_reads _ _ _ _ ⟨_, _, _, rfl, h'⟩ hW)
  clear h' hok hk hc hes
  have c0 : (w.alloc (.cells #[.int .i64 m, .slice A body.length cc] 58)).cell? ⟨w.heap.size, 0, none⟩ = some (.int .i64 m) := BX.out.cell 0
  have c1 : (w.alloc (.cells #[.int .i64 m, .slice A body.length cc] 58)).cell? ⟨w.heap.size, 1, none⟩ = some (.slice A body.length cc) := BX.out.cell 1
  go_enter Try.func52, Try.ntmps52
  go_wp2_with fail
  refine (IK.out _).mono ?_
  rintro e w' ⟨rfl, rfl⟩
  go_wp2_with fail
  refine (implIn_t _ _ _ _ hc2.1 hc2.2).mono ?_
  rintro e w' ⟨rfl, rfl⟩
  go_wp2_with fail
  refine (IP.out _ (H.out _ bx)).mono ?_
  rintro e w1 ⟨rfl, b1⟩
  have T1 := bx.trans (b1.mono bx.size)
  have BX1 := Lib.hid (BX.out.below b1 BX.out.lt)
  have d0 := BX1.out.cell 0
  have d1 := BX1.out.cell 1
  clear b1 IK IP BX c0 c1
  have m8 : IntKind.u8.wrap m = m := IntWalk.u8_in _ (by omega)
  have l8 : IntKind.u8.wrap (body.length : Int) = (body.length : Int) := IntWalk.u8_in _ (by omega)
  have hr0 : (#[.int .u8 m, .int .u8 (body.length : Int)] : Array Value).toList = [UInt8.ofInt m, UInt8.ofInt (body.length : Nat)].map (fun x => Value.int .u8 (x.toNat : Int)) := by
    have e1 : m % 256 = m := by omega
    have e2 : (body.length : Int) % 256 = body.length := by omega
    simp [ofInt_toNat, e1, e2]
  have r0 := Row_lit (E := 5) (B := w.heap.size) w1 #[.int .u8 m, .int .u8 (body.length : Int)] T1.size (by simp [maxLen])
  rw [hr0] at r0
  have R0 := Lib.hid r0
  have bl := below_alloc w1 (.cells #[.int .u8 m, .int .u8 (body.length : Int)] 5)
  have SB := Lib.hid (H.out _ (T1.trans (bl.mono T1.size))).at_same.srcB
  have T1H := Lib.hid T1
  have d1a : (w1.alloc (.cells #[.int .u8 m, .int .u8 (body.length : Int)] 5)).cell? ⟨w.heap.size, 1, none⟩ = some (.slice A body.length cc) := (BX1.out.alloc _).cell 1
  clear hr0 r0
  go_wp2_with (at_builtin; refine wpList_app elB rfl (.tmp 30) (.tmp 32) rfl _ 2 _ rfl R0.out.1 A body.length cc _ rfl SB.out (one_mapB body) (by simp only [maxLen]; omega) (by omega) ?_; intro v2 w2 hown hg hat)
  have P2 := Lib.hid (R0.out.app0 (T1H.out.trans (bl.mono T1H.out.size)) (Nat.le_trans T1H.out.size bl.size) hown hg hat)
  have BX2 := Lib.hid (Box.grown (BX1.out.alloc _) hg (fun e => Nat.ne_of_lt BX1.out.lt (Option.some.inj e)))

  obtain ⟨A2, l2, c2, rfl⟩ := own_shape hown
  have T2H := Lib.hid P2.out.2
  clear hown hg hat SB bl d1a R0 d0 d1
  have RL : Rd RI (w2.alloc (.cells #[.int .i64 61, .int .i64 c] 3)).drew (.slice (some ⟨w2.heap.size, 0, none⟩) 2 2) [61, c] := Rd_reads RI_reads _ _ _ _ (rd_two 61 c w2) (Below.refl _ _).drew
  have KH := Lib.hid (implKeyedHash_c k _ [61, c] _ RL (by simp))
  obtain ⟨s, hs⟩ : ∃ s, khash k [61, c] = s := ⟨_, rfl⟩
  rw [hs] at KH
  have HS := Lib.hid hs
  have ST : Hid (∀ W, Calls Try.prog 66 #[.int .i64 s, .int .i64 18] W fun e w' => ∃ A cc, e = .returned (.slice A 18 cc) ∧ Rd RB w' (.slice A 18 cc) (stream s 18) ∧ Below W.heap.size W w') := Lib.hid (fun W => (implStream_c s 18 W (by omega) (by omega)).mono (by
    rintro e w' ⟨v', rfl, F⟩
    rw [show streamI s 18 = stream s 18 from rfl] at F
    have rd : Rd RB w' v' (stream s 18) := (F.iv (Own_good FB_good)).rd (R' := RB) (fun q => q.rb)
    have hb := F.below
    obtain ⟨A, l, cc, rfl⟩ := fresh_slice F
    obtain rfl : 18 = l := by have := rd.at_same.1; rw [stream_len] at this; exact this
    exact ⟨A, cc, rfl, rd, hb⟩))
  clear hs RL
  have CE : Hid (∀ W, Below w2.heap.size w2 W → W.cell? ⟨w.heap.size, 1, none⟩ = some (.slice A body.length cc) ∧ Row 5 w.heap.size W (.slice A2 l2 c2) (2 + body.length) ([UInt8.ofInt m, UInt8.ofInt (body.length : Nat)].map (fun x => Value.int .u8 (x.toNat : Int)) ++ body.map fun x => Value.int .u8 (x.toNat : Int))) := Lib.hid (fun W hW => ⟨(BX2.out.below hW BX2.out.lt).cell 1, P2.out.1.below hW⟩)
  have e0 := (CE.out _ (Below.refl _ _)).1
  have e0d := (CE.out _ (Below.refl _ _).drew).1
  have e1 := (CE.out _ (below_alloc w2 (.cells #[.int .i64 61, .int .i64 c] 3))).1
  have e1d := (CE.out _ (below_alloc w2 (.cells #[.int .i64 61, .int .i64 c] 3)).drew).1
  have hlb : (body.length : Int) ≤ 18 := by omega
  go_wp2_with fail
  go_region_law (first
    | (refine step_app elB (by rfl) _ _ (by rfl) (.slice A2 l2 c2) (2 + body.length) _ (by rfl) HOWN (if c5 = body.length then some ⟨b5, o5, none⟩ else some ⟨b5, o5 + body.length, none⟩) (18 - body.length) (c5 - body.length) _ (by rfl) HSRC HONE (by simp only [maxLen]; omega) (by omega) ?_; intro v6 w6 hown hg hat)
    | (go_simp; ((with_reducible refine KH.out.mono ?_); rintro e w3 ⟨rfl, b3⟩; have T3 : Below w2.heap.size w2 w3 := ((below_alloc w2 (.cells #[.int .i64 61, .int .i64 c] 3)).drew).trans (b3.mono (by simp)); have e3 := (CE.out _ T3).1))
    | (go_simp; ((with_reducible refine (ST.out _).mono ?_); rintro e w4 ⟨A5, c5, rfl, rd5, b4⟩; have T4 := T3.trans (b4.mono T3.size); have e4 := (CE.out _ T4).1; obtain ⟨b5, o5, rfl, hb5, _⟩ := rd5.at_same.2.2.2 (by omega); have hc5 := rd5.at_same.2.1; have HOWN := (CE.out _ T4).2.1; have HSRC : Src w4 (if c5 = body.length then some ⟨b5, o5, none⟩ else some ⟨b5, o5 + body.length, none⟩) (18 - body.length) (((stream s 18).map fun x => Value.int .u8 (x.toNat : Int)).drop body.length) := src_cut2 rd5.at_same.srcB rfl (by omega) hc5 hb5 (Below.refl _ _); have HONE : ∀ u ∈ (((stream s 18).map fun x => Value.int .u8 (x.toNat : Int)).drop body.length), u.oneCell' = true := fun u hu => one_mapB _ u (List.mem_of_mem_drop hu))))
  all_goals
    have q6 := (CE.out _ T4).2.app0 (T2H.out.trans (T4.mono T2H.out.size)) (Nat.le_trans T2H.out.size T4.size) hown hg hat
    have hpl : ([UInt8.ofInt m, UInt8.ofInt (body.length : Nat)].map (fun x => Value.int .u8 (x.toNat : Int)) ++ body.map (fun x => Value.int .u8 (x.toNat : Int))) ++ ((stream s 18).map fun x => Value.int .u8 (x.toNat : Int)).drop body.length = (plnB k c m body).map (fun x => Value.int .u8 (x.toNat : Int)) := by
      unfold plnB
      rw [HS.out, List.map_append, List.map_append, List.map_drop]
    rw [hpl] at q6
    have rd6 : Rd RB w6 v6 (plnB k c m body) := rd_rowB q6.1.1 rfl
    have HR6 := Lib.hid rd6
    have T6H := Lib.hid q6.2
    generalize (if c5 = body.length then (some ⟨b5, o5, none⟩ : Option Addr) else some ⟨b5, o5 + body.length, none⟩) = AX at *
    clear hown hg hat q6 hpl rd6 T4 T3 HOWN HSRC HONE e0 e0d e1 e1d e3 e4 rd5 hc5 hb5 ST KH CE
    go_wp2_with fail
    refine (implCellKey_c k c w6).mono ?_
    rintro e w7 ⟨rfl, b7⟩
    have T7H := Lib.hid (T6H.out.trans (b7.mono T6H.out.size))
    have EN := Lib.hid (implEnc2_c (cellK k c) v6 (plnB k c m body) w7 (Rd_reads RB_reads _ _ _ _ HR6.out b7) (by rw [plnB_len k c m body hb]; omega))
    clear b7
    go_wp2_with fail
    refine EN.out.mono ?_
    rintro e w8 ⟨v8, rfl, F8⟩
    have hed : enc (cellK k c) (plnB k c m body) = sealD k c m body := rfl
    rw [hed] at F8
    have R8 := Lib.hid F8.rowB
    have hl8 := sealD_len k c m body hb
    have T8H := Lib.hid (T7H.out.trans (F8.below.mono T7H.out.size))
    have hs7 := T7H.out.size
    obtain ⟨A8, l8', c8, rfl⟩ := fresh_slice F8
    have CB := Lib.hid (implCkB_c k c _ (sealD k c m body) w8 ((F8.iv (Own_good FB_good)).rd (R' := RB) (fun q => q.rb)) (by omega))
    clear F8 EN HR6
    go_wp2_with fail
    refine CB.out.mono ?_
    rintro e w9 ⟨v9, rfl, F9⟩
    have R9 := Lib.hid (R8.out.below F9.below)
    have T9H := Lib.hid (T8H.out.trans (F9.below.mono T8H.out.size))
    have S9 := Lib.hid ((F9.iv (Own_good FB_good)).rd (R' := RB) (fun q => q.rb))
    obtain ⟨A9, l9, c9, rfl⟩ := fresh_slice F9
    obtain rfl : 4 = l9 := S9.out.at_same.1
    clear F9 CB
    have SR9 := Lib.hid S9.out.at_same.srcB
    go_wp2_with (at_builtin; refine wpList_app elB rfl (.tmp 50) (.tmp 54) rfl (.slice A8 l8' c8) _ _ rfl R9.out.1 A9 4 c9 _ rfl SR9.out (one_mapB _) (by rw [hl8]; simp [maxLen]) (by rw [hl8]; omega) ?_; intro v10 w10 hown hg hat)
    have RB9 : Row 5 w.heap.size w9 (.slice A8 l8' c8) (sealD k c m body).length ((sealD k c m body).map fun x => Value.int .u8 (x.toNat : Int)) := ⟨R9.out.1, fun b hb => Nat.le_trans hs7 (R9.out.2 b hb)⟩
    have q10 := RB9.app0 T9H.out T9H.out.size hown hg hat
    rw [← List.map_append, ← HES.out] at q10
    have FF := Lib.hid (q10.1.freshB q10.2 rfl)
    clear hown hg hat q10 RB9
    refine bodyPost_ret (v := .tuple #[v10, .bool true]) (by simp [results, Try.results52, go_sem]) rfl ⟨_, rfl, FF.out⟩
end Go.Proofs.Ytokhogdocaeelaa
