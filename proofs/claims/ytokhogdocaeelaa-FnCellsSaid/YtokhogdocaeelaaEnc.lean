/- Encrypt and Decrypt. -/
import Derived.Test.YtokhogdocaeelaaStream
import Derived.Test.YtokhogdocaeelaaXor
import Derived.Test.YtokhogdocaeelaaKeep
import Derived.IntWalk
import Derived.Deep.RegionHeld3
import Derived.Deep.RegionLaw
namespace Go.Proofs.Ytokhogdocaeelaa
set_option linter.unusedVariables false
open Go.RowKit

def ks (k : Int) (i : Nat) : Int := khash k [(i : Int)] % 256
def encAt (k : Int) (i : Nat) (x : UInt8) : UInt8 := UInt8.ofInt ((x.toNat : Int) + ks k i)
def decAt (k : Int) (i : Nat) (x : UInt8) : UInt8 := UInt8.ofInt ((x.toNat : Int) - ks k i)
def enc (k : Int) (xs : List UInt8) : List UInt8 := xs.mapIdx (encAt k)
def dec (k : Int) (xs : List UInt8) : List UInt8 := xs.mapIdx (decAt k)
theorem enc_len (k : Int) (xs : List UInt8) : (enc k xs).length = xs.length := by simp [enc]
theorem dec_len (k : Int) (xs : List UInt8) : (dec k xs).length = xs.length := by simp [dec]
theorem enc_get (k : Int) (xs : List UInt8) (i : Nat) (x : UInt8) (h : xs[i]? = some x) : (enc k xs)[i]? = some (encAt k i x) := by simp [enc, List.getElem?_mapIdx, h]
theorem dec_get (k : Int) (xs : List UInt8) (i : Nat) (x : UInt8) (h : xs[i]? = some x) : (dec k xs)[i]? = some (decAt k i x) := by simp [dec, List.getElem?_mapIdx, h]
theorem ks_bd (k : Int) (i : Nat) : 0 ≤ ks k i ∧ ks k i ≤ 255 := by unfold ks; omega
theorem encAt_val (k : Int) (i : Nat) (x : UInt8) : ((encAt k i x).toNat : Int) = ((x.toNat : Int) + ks k i) % 256 := ofInt_toNat _
theorem decAt_val (k : Int) (i : Nat) (x : UInt8) : ((decAt k i x).toNat : Int) = ((x.toNat : Int) - ks k i) % 256 := ofInt_toNat _
theorem dec_enc (k : Int) (xs : List UInt8) : dec k (enc k xs) = xs := by
  refine List.ext_getElem? (fun i => ?_)
  by_cases h : i < xs.length
  · have hx := List.getElem?_eq_getElem h
    rw [dec_get k _ i _ (enc_get k xs i _ hx), hx]
    have e1 := decAt_val k i (encAt k i xs[i])
    have e2 := encAt_val k i xs[i]
    have b := xs[i].toNat_lt
    congr 1
    apply UInt8.toNat_inj.1
    omega
  · rw [List.getElem?_eq_none (by rw [dec_len, enc_len]; omega), List.getElem?_eq_none (by omega)]
theorem mix_set {α : Type} {l m : List α} (hl : l.length = m.length) {i : Nat} {y : α} (hy : l[i]? = some y) : (l.take i ++ m.drop i).set i y = l.take (i + 1) ++ m.drop (i + 1) := by
  have hi : i < l.length := (List.getElem?_eq_some_iff.1 hy).1
  have ht : (l.take i).length = i := by rw [List.length_take]; omega
  rw [List.set_append, if_neg (by rw [ht]; omega), ht, Nat.sub_self, List.drop_eq_getElem_cons (by omega), List.set_cons_zero, List.take_add_one, hy]
  simp
theorem mix_get {α : Type} {l m : List α} (hl : l.length = m.length) {i : Nat} (hi : i < m.length) : (l.take i ++ m.drop i)[i]? = m[i]? := by
  have ht : (l.take i).length = i := by rw [List.length_take]; omega
  rw [List.getElem?_append_right (by omega), ht, Nat.sub_self, List.getElem?_drop, Nat.add_zero]
theorem Row.setB {E : TypeId} {B g n cap k : Nat} {w : World} {ys : List UInt8} (h : Row E B w (.slice (some ⟨g, 0, none⟩) n cap) n (ys.map fun x => Value.int .u8 (x.toNat : Int))) (r : UInt8) : Row E B (w.setCell ⟨g, k, none⟩ (.int .u8 (r.toNat : Int))) (.slice (some ⟨g, 0, none⟩) n cap) n ((ys.set k r).map fun x => Value.int .u8 (x.toNat : Int)) := by
  rw [List.map_set]
  exact ⟨(h.1.stored k _).1, h.2⟩
theorem Fresh.rowB {E : TypeId} {w w' : World} {v : Value} {ys : List UInt8} (h : Fresh (Own E FB) w w' v ys) : Row E w.heap.size w' v ys.length (ys.map fun x => Value.int .u8 (x.toNat : Int)) := by
  obtain ⟨F, f1, f2, f3, f4⟩ := h
  obtain ⟨k1, rfl⟩ := Own_flatB.1 f1
  exact ⟨k1, fun b hb => f3 b (by simpa using hb)⟩
set_option maxHeartbeats 1000000 in
set_option maxRecDepth 100000 in
theorem implEnc2_c (k : Int) (v : Value) (xs : List UInt8) (w : World) (h : Rd RB w v xs) (hn : xs.length ≤ 1048576) :
    Calls Try.prog 100 #[.int .i64 k, v] w fun e w' => ∃ v', e = .returned v' ∧ Fresh (Own 5 FB) w w' v' (enc k xs) := by
  have CL := Lib.hid (CloneB_c v xs w h (by omega))
  clear h
  go_enter Try.func100, Try.ntmps100
  go_wp2_with fail
  refine CL.out.mono ?_
  rintro e w1 ⟨v1, rfl, F1⟩
  obtain ⟨A1, l1, c1, rfl⟩ := fresh_slice F1
  have R1 := F1.rowB
  have B1 := F1.below
  obtain ⟨n, hxn⟩ : ∃ n, xs.length = n := ⟨_, rfl⟩
  rw [hxn] at R1
  have HXN := Lib.hid hxn
  have hnn : n ≤ 1048576 := by omega
  obtain rfl : n = l1 := by
    rcases R1.1.2 with ⟨h, h0⟩ | ⟨g, cap, cur, h, _⟩
    · injection h with _ e2 _; omega
    · injection h with _ e2 _; omega
  have HR1 := Lib.hid R1
  clear CL F1 R1 hxn
  go_wp2_with fail
  go_loopw [11] (fun o wr => ∃ i : Nat, i ≤ n ∧ o = .int .i64 i ∧ Hid (Row 5 w.heap.size wr (.slice A1 n c1) n (((enc k xs).take i ++ xs.drop i).map fun x => Value.int .u8 (x.toNat : Int)) ∧ Below w.heap.size w wr)) (fun o _ => n - (intOf o).toNat)
  case atStart => exact ⟨0, Nat.zero_le _, rfl, Lib.hid ⟨HR1.out, B1⟩⟩
  case round =>
    obtain ⟨i, hi, rfl, HH⟩ := hrel
    have hll : (enc k xs).length = xs.length := enc_len k xs
    by_cases hlt : i < n
    · obtain ⟨g, rfl, hgB, hgl⟩ : ∃ g, A1 = some ⟨g, 0, none⟩ ∧ w.heap.size ≤ g ∧ g < wr.heap.size := by
        rcases HH.out.1.1.2 with ⟨_, h0⟩ | ⟨g, cap, cur, h, _⟩
        · omega
        · injection h with e1 _ _
          subst e1
          exact ⟨g, rfl, HH.out.1.2 g rfl, (HH.out.1.1.lt g rfl).2⟩
      obtain ⟨x, hx⟩ : ∃ x, xs[i]? = some x := ⟨_, List.getElem?_eq_getElem (by rw [HXN.out]; exact hlt)⟩
      have hg := mix_get hll (i := i) (by rw [HXN.out]; exact hlt)
      have hset := mix_set hll (enc_get k xs i x hx)
      have cst : wr.drew.cell? ⟨g, i, none⟩ = some (.int .u8 (x.toNat : Int)) := (HH.out.1.1.cellAt i (by omega)).trans (by rw [List.getElem?_map, hg, hx]; rfl)
      have fst_ : wr.drew.frozen? ⟨g, i, none⟩ = false := HH.out.1.1.frozenAt i
      have Rd0 : Row 5 w.heap.size wr.drew (.slice (some ⟨g, 0, none⟩) n c1) n (((enc k xs).take i ++ xs.drop i).map fun x => Value.int .u8 (x.toNat : Int)) := HH.out.1.below (Below.refl _ _).drew
      have RL : Rd RI (wr.alloc (.cells #[.int .i64 (i : Int)] 3)).drew (.slice (some ⟨wr.heap.size, 0, none⟩) 1 1) [(i : Int)] := Rd_reads RI_reads _ _ _ _ (rd_rowI (Row_lit (E := 3) (B := wr.heap.size) wr #[.int .i64 (i : Int)] (Nat.le_refl _) (by simp [maxLen])).1 (xs := [(i : Int)]) rfl) (Below.refl _ _).drew
      have KH := Lib.hid (implKeyedHash_c k _ [(i : Int)] _ RL (by simp))
      obtain ⟨hh, hhe⟩ : ∃ hh, khash k [(i : Int)] = hh := ⟨_, rfl⟩
      rw [hhe] at KH
      have hks : ks k i = hh % 256 := by unfold ks; rw [hhe]
      have hv := encAt_val k i x
      rw [hks] at hv
      have hxb := x.toNat_lt
      have hkr := khash_range k [(i : Int)]
      rw [hhe] at hkr
      have hi0 : (0 : Int) ≤ (i : Int) := by omega
      have hin : (i : Int) < (n : Int) := by omega
      have hm : hh.tmod 256 = hh % 256 := Int.tmod_eq_emod_of_nonneg (by omega)
      have hw : IntKind.u8.wrap (hh % 256) = hh % 256 := IntWalk.u8_in _ (by omega)
      have hw2 : IntKind.u8.wrap ((x.toNat : Int) + hh % 256) = ((encAt k i x).toNat : Int) := by rw [IntKind.wrap_u8, hv]
      have CE : Hid (∀ W, Below wr.heap.size wr W → W.cell? ⟨g, i, none⟩ = some (.int .u8 (x.toNat : Int)) ∧ W.frozen? ⟨g, i, none⟩ = false ∧ Row 5 w.heap.size W (.slice (some ⟨g, 0, none⟩) n c1) n (((enc k xs).take i ++ xs.drop i).map fun x => Value.int .u8 (x.toNat : Int))) := Lib.hid (fun W hW => by
        have r := HH.out.1.below hW
        exact ⟨(r.1.cellAt i (by omega)).trans (by rw [List.getElem?_map, hg, hx]; rfl), r.1.frozenAt i, r⟩)
      have f1 := (CE.out _ (below_alloc wr (.cells #[.int .i64 (i : Int)] 3))).1
      have f2 := (CE.out _ (below_alloc wr (.cells #[.int .i64 (i : Int)] 3))).2.1
      have f1d := (CE.out _ (below_alloc wr (.cells #[.int .i64 (i : Int)] 3)).drew).1
      have f2d := (CE.out _ (below_alloc wr (.cells #[.int .i64 (i : Int)] 3)).drew).2.1
      have f0 := (CE.out _ (Below.refl _ _)).1
      have HST := Lib.hid hset
      have HB := Lib.hid HH.out.2
      obtain ⟨y, hy⟩ : ∃ y, ((encAt k i x).toNat : Int) = y := ⟨_, rfl⟩
      rw [hy] at hw2
      have HY := Lib.hid hy
      clear hy hset hg Rd0 RL hv hks hkr HR1 hhe
      go_wp2_with fail
      go_region_law (first
        | (go_simp; ((with_reducible refine KH.out.mono ?_); rintro e w2 ⟨rfl, b2⟩; have T2 : Below wr.heap.size wr w2 := ((below_alloc wr (.cells #[.int .i64 (i : Int)] 3)).drew).trans (b2.mono (by simp)); have c2 := (CE.out _ T2).1; have f3 := (CE.out _ T2).2.1)))
      all_goals
        have R9 := ((CE.out _ T2).2.2).setB (k := i) (encAt k i x)
        rw [HST.out, HY.out] at R9
        have T9 := (HB.out.trans (T2.mono HB.out.size)).setCell (p := ⟨g, i, none⟩) hgB (.int .u8 y)
        have HF := Lib.hid (And.intro R9 T9)
        clear R9 T9 T2 b2
        go_wp2
        go_roundw
        case rel => exact ⟨i + 1, by omega, by go_num, HF⟩
        case measure => simp [intOf]; omega
    · obtain rfl : n = i := by omega
      have F := HH.out.1
      rw [List.take_of_length_le (by rw [hll, HXN.out]; omega), List.drop_of_length_le (by rw [HXN.out]; omega), List.append_nil] at F
      have hlen : (enc k xs).length = n := by rw [hll, HXN.out]
      rw [← hlen] at F
      have FF := Lib.hid (F.freshB HH.out.2 rfl)
      go_wp2
      go_ret
      rw [← hlen]
      exact ⟨_, rfl, FF.out⟩
set_option maxHeartbeats 1000000 in
set_option maxRecDepth 100000 in
theorem implDec_c (k : Int) (v : Value) (xs : List UInt8) (w : World) (h : Rd RB w v xs) (hn : xs.length ≤ 1048576) :
    Calls Try.prog 94 #[.int .i64 k, v] w fun e w' => ∃ v', e = .returned v' ∧ Fresh (Own 5 FB) w w' v' (dec k xs) := by
  have CL := Lib.hid (CloneB_c v xs w h (by omega))
  clear h
  go_enter Try.func94, Try.ntmps94
  go_wp2_with fail
  refine CL.out.mono ?_
  rintro e w1 ⟨v1, rfl, F1⟩
  obtain ⟨A1, l1, c1, rfl⟩ := fresh_slice F1
  have R1 := F1.rowB
  have B1 := F1.below
  obtain ⟨n, hxn⟩ : ∃ n, xs.length = n := ⟨_, rfl⟩
  rw [hxn] at R1
  have HXN := Lib.hid hxn
  have hnn : n ≤ 1048576 := by omega
  obtain rfl : n = l1 := by
    rcases R1.1.2 with ⟨h, h0⟩ | ⟨g, cap, cur, h, _⟩
    · injection h with _ e2 _; omega
    · injection h with _ e2 _; omega
  have HR1 := Lib.hid R1
  clear CL F1 R1 hxn
  go_wp2_with fail
  go_loopw [11] (fun o wr => ∃ i : Nat, i ≤ n ∧ o = .int .i64 i ∧ Hid (Row 5 w.heap.size wr (.slice A1 n c1) n (((dec k xs).take i ++ xs.drop i).map fun x => Value.int .u8 (x.toNat : Int)) ∧ Below w.heap.size w wr)) (fun o _ => n - (intOf o).toNat)
  case atStart => exact ⟨0, Nat.zero_le _, rfl, Lib.hid ⟨HR1.out, B1⟩⟩
  case round =>
    obtain ⟨i, hi, rfl, HH⟩ := hrel
    have hll : (dec k xs).length = xs.length := dec_len k xs
    by_cases hlt : i < n
    · obtain ⟨g, rfl, hgB, hgl⟩ : ∃ g, A1 = some ⟨g, 0, none⟩ ∧ w.heap.size ≤ g ∧ g < wr.heap.size := by
        rcases HH.out.1.1.2 with ⟨_, h0⟩ | ⟨g, cap, cur, h, _⟩
        · omega
        · injection h with e1 _ _
          subst e1
          exact ⟨g, rfl, HH.out.1.2 g rfl, (HH.out.1.1.lt g rfl).2⟩
      obtain ⟨x, hx⟩ : ∃ x, xs[i]? = some x := ⟨_, List.getElem?_eq_getElem (by rw [HXN.out]; exact hlt)⟩
      have hg := mix_get hll (i := i) (by rw [HXN.out]; exact hlt)
      have hset := mix_set hll (dec_get k xs i x hx)
      have cst : wr.drew.cell? ⟨g, i, none⟩ = some (.int .u8 (x.toNat : Int)) := (HH.out.1.1.cellAt i (by omega)).trans (by rw [List.getElem?_map, hg, hx]; rfl)
      have fst_ : wr.drew.frozen? ⟨g, i, none⟩ = false := HH.out.1.1.frozenAt i
      have Rd0 : Row 5 w.heap.size wr.drew (.slice (some ⟨g, 0, none⟩) n c1) n (((dec k xs).take i ++ xs.drop i).map fun x => Value.int .u8 (x.toNat : Int)) := HH.out.1.below (Below.refl _ _).drew
      have RL : Rd RI (wr.alloc (.cells #[.int .i64 (i : Int)] 3)).drew (.slice (some ⟨wr.heap.size, 0, none⟩) 1 1) [(i : Int)] := Rd_reads RI_reads _ _ _ _ (rd_rowI (Row_lit (E := 3) (B := wr.heap.size) wr #[.int .i64 (i : Int)] (Nat.le_refl _) (by simp [maxLen])).1 (xs := [(i : Int)]) rfl) (Below.refl _ _).drew
      have KH := Lib.hid (implKeyedHash_c k _ [(i : Int)] _ RL (by simp))
      obtain ⟨hh, hhe⟩ : ∃ hh, khash k [(i : Int)] = hh := ⟨_, rfl⟩
      rw [hhe] at KH
      have hks : ks k i = hh % 256 := by unfold ks; rw [hhe]
      have hv := decAt_val k i x
      rw [hks] at hv
      have hxb := x.toNat_lt
      have hkr := khash_range k [(i : Int)]
      rw [hhe] at hkr
      have hi0 : (0 : Int) ≤ (i : Int) := by omega
      have hin : (i : Int) < (n : Int) := by omega
      have hm : hh.tmod 256 = hh % 256 := Int.tmod_eq_emod_of_nonneg (by omega)
      have hw : IntKind.u8.wrap (hh % 256) = hh % 256 := IntWalk.u8_in _ (by omega)
      have hw2 : IntKind.u8.wrap ((x.toNat : Int) - hh % 256) = ((decAt k i x).toNat : Int) := by rw [IntKind.wrap_u8, hv]
      have CE : Hid (∀ W, Below wr.heap.size wr W → W.cell? ⟨g, i, none⟩ = some (.int .u8 (x.toNat : Int)) ∧ W.frozen? ⟨g, i, none⟩ = false ∧ Row 5 w.heap.size W (.slice (some ⟨g, 0, none⟩) n c1) n (((dec k xs).take i ++ xs.drop i).map fun x => Value.int .u8 (x.toNat : Int))) := Lib.hid (fun W hW => by
        have r := HH.out.1.below hW
        exact ⟨(r.1.cellAt i (by omega)).trans (by rw [List.getElem?_map, hg, hx]; rfl), r.1.frozenAt i, r⟩)
      have f1 := (CE.out _ (below_alloc wr (.cells #[.int .i64 (i : Int)] 3))).1
      have f2 := (CE.out _ (below_alloc wr (.cells #[.int .i64 (i : Int)] 3))).2.1
      have f1d := (CE.out _ (below_alloc wr (.cells #[.int .i64 (i : Int)] 3)).drew).1
      have f2d := (CE.out _ (below_alloc wr (.cells #[.int .i64 (i : Int)] 3)).drew).2.1
      have f0 := (CE.out _ (Below.refl _ _)).1
      have HST := Lib.hid hset
      have HB := Lib.hid HH.out.2
      obtain ⟨y, hy⟩ : ∃ y, ((decAt k i x).toNat : Int) = y := ⟨_, rfl⟩
      rw [hy] at hw2
      have HY := Lib.hid hy
      clear hy hset hg Rd0 RL hv hks hkr HR1 hhe
      go_wp2_with fail
      go_region_law (first
        | (go_simp; ((with_reducible refine KH.out.mono ?_); rintro e w2 ⟨rfl, b2⟩; have T2 : Below wr.heap.size wr w2 := ((below_alloc wr (.cells #[.int .i64 (i : Int)] 3)).drew).trans (b2.mono (by simp)); have c2 := (CE.out _ T2).1; have f3 := (CE.out _ T2).2.1)))
      all_goals
        have R9 := ((CE.out _ T2).2.2).setB (k := i) (decAt k i x)
        rw [HST.out, HY.out] at R9
        have T9 := (HB.out.trans (T2.mono HB.out.size)).setCell (p := ⟨g, i, none⟩) hgB (.int .u8 y)
        have HF := Lib.hid (And.intro R9 T9)
        clear R9 T9 T2 b2
        go_wp2
        go_roundw
        case rel => exact ⟨i + 1, by omega, by go_num, HF⟩
        case measure => simp [intOf]; omega
    · obtain rfl : n = i := by omega
      have F := HH.out.1
      rw [List.take_of_length_le (by rw [hll, HXN.out]; omega), List.drop_of_length_le (by rw [HXN.out]; omega), List.append_nil] at F
      have hlen : (dec k xs).length = n := by rw [hll, HXN.out]
      rw [← hlen] at F
      have FF := Lib.hid (F.freshB HH.out.2 rfl)
      go_wp2
      go_ret
      rw [← hlen]
      exact ⟨_, rfl, FF.out⟩
set_option maxHeartbeats 1000000 in
set_option maxRecDepth 100000 in
theorem specEnc2_c (k : Int) (v : Value) (xs : List UInt8) (w : World) (h : Rd RB w v xs) (hn : xs.length ≤ 1048576) :
    Calls Try.prog 98 #[.int .i64 k, v] w fun e w' => ∃ v', e = .returned v' ∧ Fresh (Own 5 FB) w w' v' (enc k xs) := by
  obtain ⟨A, n, c, rfl, h'⟩ := h
  obtain rfl := h'.1
  have H : Hid (Rd RB w (.slice A xs.length c) xs) := Lib.hid ⟨_, _, _, rfl, h'⟩
  clear h'
  obtain ⟨n, hxn⟩ : ∃ n, xs.length = n := ⟨_, rfl⟩
  rw [hxn] at H ⊢
  have HXN := Lib.hid hxn
  have hnn : n ≤ 1048576 := by omega
  clear hxn
  have R0 : Hid (Row 5 w.heap.size (w.alloc (.cells #[] 5)) (.slice (some ⟨w.heap.size, 0, none⟩) 0 0) 0 []) := Lib.hid (Row_lit (E := 5) w #[] (Nat.le_refl _) (by simp))
  have B0 := below_alloc w (.cells #[] 5)
  go_enter Try.func98, Try.ntmps98
  go_wp2_with fail
  generalize w.alloc (.cells #[] 5) = w1 at *
  go_loopw [5, 6] (fun o l wr => ∃ i : Nat, i ≤ n ∧ l = .int .i64 i ∧ Hid (Row 5 w.heap.size wr o i (((enc k xs).take i).map fun x => Value.int .u8 (x.toNat : Int)) ∧ Below w.heap.size w wr)) (fun _ l _ => n - (intOf l).toNat)
  case atStart => exact ⟨0, Nat.zero_le _, rfl, Lib.hid ⟨by simpa using R0.out, B0⟩⟩
  case round =>
    obtain ⟨i, hi, rfl, HH⟩ := hrel
    have hll : (enc k xs).length = xs.length := enc_len k xs
    by_cases hlt : i < n
    · obtain ⟨Ao, lo, co, rfl⟩ := own_shape HH.out.1.1
      obtain ⟨b, off, x, u, rfl, hbb, hx, hu, hr⟩ := H.out.at_same.at_ hlt
      unfold RB at hr
      subst hr
      have hs := HH.out.2.size
      have hsucc : (enc k xs).take (i + 1) = (enc k xs).take i ++ [encAt k i x] := by rw [List.take_add_one, enc_get k xs i x hx]; rfl
      have CE : Hid (∀ W, Below wr.heap.size wr W → W.cell? ⟨b, off + i, none⟩ = some (.int .u8 (x.toNat : Int)) ∧ Row 5 w.heap.size W (.slice Ao lo co) i (((enc k xs).take i).map fun x => Value.int .u8 (x.toNat : Int))) := Lib.hid (fun W hW => ⟨((HH.out.2.trans (hW.mono hs)).cell (p := ⟨b, off + i, none⟩) hbb).trans hu, HH.out.1.below hW⟩)
      have RL : Rd RI (wr.alloc (.cells #[.int .i64 (i : Int)] 3)).drew (.slice (some ⟨wr.heap.size, 0, none⟩) 1 1) [(i : Int)] := Rd_reads RI_reads _ _ _ _ (rd_rowI (Row_lit (E := 3) (B := wr.heap.size) wr #[.int .i64 (i : Int)] (Nat.le_refl _) (by simp [maxLen])).1 (xs := [(i : Int)]) rfl) (Below.refl _ _).drew
      have KH := Lib.hid (specKeyedHash_c k _ [(i : Int)] _ RL (by simp))
      obtain ⟨hh, hhe⟩ : ∃ hh, khash k [(i : Int)] = hh := ⟨_, rfl⟩
      rw [hhe] at KH
      have hks : ks k i = hh % 256 := by unfold ks; rw [hhe]
      have hv := encAt_val k i x
      rw [hks] at hv
      have hxb := x.toNat_lt
      have hkr := khash_range k [(i : Int)]
      rw [hhe] at hkr
      have hi0 : (0 : Int) ≤ (i : Int) := by omega
      have hin : (i : Int) < (n : Int) := by omega
      have hm : hh.tmod 256 = hh % 256 := Int.tmod_eq_emod_of_nonneg (by omega)
      obtain ⟨y, hy⟩ : ∃ y, ((encAt k i x).toNat : Int) = y := ⟨_, rfl⟩
      rw [hy] at hv
      have hw1 : IntKind.i64.wrap ((x.toNat : Int) + hh % 256) = (x.toNat : Int) + hh % 256 := IntWalk.i64_in _ (by omega)
      have hm2 : ((x.toNat : Int) + hh % 256).tmod 256 = y := by rw [Int.tmod_eq_emod_of_nonneg (by omega), hv]
      have hw0 : IntKind.i64.wrap (x.toNat : Int) = (x.toNat : Int) := IntWalk.i64_in _ (by omega)
      have hw2 : IntKind.u8.wrap y = y := IntWalk.u8_in _ (by omega)
      have HY := Lib.hid hy
      have f0 := (CE.out _ (Below.refl _ _)).1
      have f0d := (CE.out _ (Below.refl _ _).drew).1
      have f1 := (CE.out _ (below_alloc wr (.cells #[.int .i64 (i : Int)] 3))).1
      have f1d := (CE.out _ (below_alloc wr (.cells #[.int .i64 (i : Int)] 3)).drew).1
      have HST := Lib.hid hsucc
      have HB := Lib.hid HH.out.2
      clear hsucc hy hv hks hkr hhe RL hu hx R0
      go_wp2_with fail
      go_region_law (first
        | (refine step_app elB (by rfl) _ _ (by rfl) (.slice Ao lo co) i _ (by rfl) HOWN (some ⟨w2.heap.size, 0, none⟩) 1 1 [.int .u8 y] (by rfl) HSRC (one_single _ rfl) (by simp only [maxLen]; omega) (by omega) ?_; intro v3 w3 hown hg hat; obtain ⟨A3, l3, c3, rfl⟩ := own_shape hown)
        | (go_simp; ((with_reducible refine KH.out.mono ?_); rintro e w2 ⟨rfl, b2⟩; have T2 : Below wr.heap.size wr w2 := ((below_alloc wr (.cells #[.int .i64 (i : Int)] 3)).drew).trans (b2.mono (by simp)); have c2 := (CE.out _ T2).1; have HR2 := (CE.out _ T2).2; have c3 := (CE.out _ (T2.alloc T2.size (.cells #[.int .u8 y] 5))).1; have HOWN := (CE.out _ (T2.alloc T2.size (.cells #[.int .u8 y] 5))).2.1; have HSRC := Src_one w2 (.int .u8 y) 5)))
      all_goals
        have r3 := HR2.app (HB.out.trans (T2.mono HB.out.size)) (HB.out.trans (T2.mono HB.out.size)).size hown hg hat
        rw [← HY.out, show ((enc k xs).take i).map (fun x => Value.int .u8 (x.toNat : Int)) ++ [.int .u8 ((encAt k i x).toNat : Int)] = ((enc k xs).take (i + 1)).map (fun x => Value.int .u8 (x.toNat : Int)) by rw [HST.out]; simp] at r3
        have HF := Lib.hid r3
        clear r3 hown hg hat HOWN HSRC HR2 T2 b2
        go_wp2
        go_roundw
        case rel => exact ⟨i + 1, by omega, by go_num, HF⟩
        case measure => simp [intOf]; omega
    · obtain rfl : n = i := by omega
      have F := HH.out.1
      have hlen : (enc k xs).length = n := by rw [hll, HXN.out]
      rw [List.take_of_length_le (by rw [hlen]; exact Nat.le_refl _)] at F
      have FF := Lib.hid (F.freshB HH.out.2 rfl)
      go_wp2
      go_ret
      exact ⟨_, rfl, FF.out⟩
set_option maxHeartbeats 1000000 in
set_option maxRecDepth 100000 in
theorem specDec_c (k : Int) (v : Value) (xs : List UInt8) (w : World) (h : Rd RB w v xs) (hn : xs.length ≤ 1048576) :
    Calls Try.prog 88 #[.int .i64 k, v] w fun e w' => ∃ v', e = .returned v' ∧ Fresh (Own 5 FB) w w' v' (dec k xs) := by
  obtain ⟨A, n, c, rfl, h'⟩ := h
  obtain rfl := h'.1
  have H : Hid (Rd RB w (.slice A xs.length c) xs) := Lib.hid ⟨_, _, _, rfl, h'⟩
  clear h'
  obtain ⟨n, hxn⟩ : ∃ n, xs.length = n := ⟨_, rfl⟩
  rw [hxn] at H ⊢
  have HXN := Lib.hid hxn
  have hnn : n ≤ 1048576 := by omega
  clear hxn
  have R0 : Hid (Row 5 w.heap.size (w.alloc (.cells #[] 5)) (.slice (some ⟨w.heap.size, 0, none⟩) 0 0) 0 []) := Lib.hid (Row_lit (E := 5) w #[] (Nat.le_refl _) (by simp))
  have B0 := below_alloc w (.cells #[] 5)
  go_enter Try.func88, Try.ntmps88
  go_wp2_with fail
  generalize w.alloc (.cells #[] 5) = w1 at *
  go_loopw [5, 6] (fun o l wr => ∃ i : Nat, i ≤ n ∧ l = .int .i64 i ∧ Hid (Row 5 w.heap.size wr o i (((dec k xs).take i).map fun x => Value.int .u8 (x.toNat : Int)) ∧ Below w.heap.size w wr)) (fun _ l _ => n - (intOf l).toNat)
  case atStart => exact ⟨0, Nat.zero_le _, rfl, Lib.hid ⟨by simpa using R0.out, B0⟩⟩
  case round =>
    obtain ⟨i, hi, rfl, HH⟩ := hrel
    have hll : (dec k xs).length = xs.length := dec_len k xs
    by_cases hlt : i < n
    · obtain ⟨Ao, lo, co, rfl⟩ := own_shape HH.out.1.1
      obtain ⟨b, off, x, u, rfl, hbb, hx, hu, hr⟩ := H.out.at_same.at_ hlt
      unfold RB at hr
      subst hr
      have hs := HH.out.2.size
      have hsucc : (dec k xs).take (i + 1) = (dec k xs).take i ++ [decAt k i x] := by rw [List.take_add_one, dec_get k xs i x hx]; rfl
      have CE : Hid (∀ W, Below wr.heap.size wr W → W.cell? ⟨b, off + i, none⟩ = some (.int .u8 (x.toNat : Int)) ∧ Row 5 w.heap.size W (.slice Ao lo co) i (((dec k xs).take i).map fun x => Value.int .u8 (x.toNat : Int))) := Lib.hid (fun W hW => ⟨((HH.out.2.trans (hW.mono hs)).cell (p := ⟨b, off + i, none⟩) hbb).trans hu, HH.out.1.below hW⟩)
      have RL : Rd RI (wr.alloc (.cells #[.int .i64 (i : Int)] 3)).drew (.slice (some ⟨wr.heap.size, 0, none⟩) 1 1) [(i : Int)] := Rd_reads RI_reads _ _ _ _ (rd_rowI (Row_lit (E := 3) (B := wr.heap.size) wr #[.int .i64 (i : Int)] (Nat.le_refl _) (by simp [maxLen])).1 (xs := [(i : Int)]) rfl) (Below.refl _ _).drew
      have KH := Lib.hid (specKeyedHash_c k _ [(i : Int)] _ RL (by simp))
      obtain ⟨hh, hhe⟩ : ∃ hh, khash k [(i : Int)] = hh := ⟨_, rfl⟩
      rw [hhe] at KH
      have hks : ks k i = hh % 256 := by unfold ks; rw [hhe]
      have hv := decAt_val k i x
      rw [hks] at hv
      have hxb := x.toNat_lt
      have hkr := khash_range k [(i : Int)]
      rw [hhe] at hkr
      have hi0 : (0 : Int) ≤ (i : Int) := by omega
      have hin : (i : Int) < (n : Int) := by omega
      have hm : hh.tmod 256 = hh % 256 := Int.tmod_eq_emod_of_nonneg (by omega)
      obtain ⟨y, hy⟩ : ∃ y, ((decAt k i x).toNat : Int) = y := ⟨_, rfl⟩
      rw [hy] at hv
      have hw1 : IntKind.i64.wrap ((x.toNat : Int) - hh % 256) = (x.toNat : Int) - hh % 256 := IntWalk.i64_in _ (by omega)
      have MD : Hid (∀ W, Calls Try.prog 121 #[.int .i64 ((x.toNat : Int) - hh % 256), .int .i64 256] W fun e w' => e = .returned (.int .i64 y) ∧ W = w') := Lib.hid (fun W => by have := specMod_c ((x.toNat : Int) - hh % 256) 256 W (by omega) (by omega); rwa [← hv] at this)
      have hw0 : IntKind.i64.wrap (x.toNat : Int) = (x.toNat : Int) := IntWalk.i64_in _ (by omega)
      have hw2 : IntKind.u8.wrap y = y := IntWalk.u8_in _ (by omega)
      have HY := Lib.hid hy
      have f0 := (CE.out _ (Below.refl _ _)).1
      have f0d := (CE.out _ (Below.refl _ _).drew).1
      have f1 := (CE.out _ (below_alloc wr (.cells #[.int .i64 (i : Int)] 3))).1
      have f1d := (CE.out _ (below_alloc wr (.cells #[.int .i64 (i : Int)] 3)).drew).1
      have HST := Lib.hid hsucc
      have HB := Lib.hid HH.out.2
      clear hsucc hy hv hks hkr hhe RL hu hx R0
      go_wp2_with fail
      go_region_law (first
        | (refine step_app elB (by rfl) _ _ (by rfl) (.slice Ao lo co) i _ (by rfl) HOWN (some ⟨w2.heap.size, 0, none⟩) 1 1 [.int .u8 y] (by rfl) HSRC (one_single _ rfl) (by simp only [maxLen]; omega) (by omega) ?_; intro v3 w3 hown hg hat; obtain ⟨A3, l3, c3, rfl⟩ := own_shape hown)
        | (go_simp; ((with_reducible refine (MD.out _).mono ?_); rintro e w4 ⟨rfl, rfl⟩))
        | (go_simp; ((with_reducible refine KH.out.mono ?_); rintro e w2 ⟨rfl, b2⟩; have T2 : Below wr.heap.size wr w2 := ((below_alloc wr (.cells #[.int .i64 (i : Int)] 3)).drew).trans (b2.mono (by simp)); have c2 := (CE.out _ T2).1; have HR2 := (CE.out _ T2).2; have c3 := (CE.out _ (T2.alloc T2.size (.cells #[.int .u8 y] 5))).1; have HOWN := (CE.out _ (T2.alloc T2.size (.cells #[.int .u8 y] 5))).2.1; have HSRC := Src_one w2 (.int .u8 y) 5)))
      all_goals
        have r3 := HR2.app (HB.out.trans (T2.mono HB.out.size)) (HB.out.trans (T2.mono HB.out.size)).size hown hg hat
        rw [← HY.out, show ((dec k xs).take i).map (fun x => Value.int .u8 (x.toNat : Int)) ++ [.int .u8 ((decAt k i x).toNat : Int)] = ((dec k xs).take (i + 1)).map (fun x => Value.int .u8 (x.toNat : Int)) by rw [HST.out]; simp] at r3
        have HF := Lib.hid r3
        clear r3 hown hg hat HOWN HSRC HR2 T2 b2
        go_wp2
        go_roundw
        case rel => exact ⟨i + 1, by omega, by go_num, HF⟩
        case measure => simp [intOf]; omega
    · obtain rfl : n = i := by omega
      have F := HH.out.1
      have hlen : (dec k xs).length = n := by rw [hll, HXN.out]
      rw [List.take_of_length_le (by rw [hlen]; exact Nat.le_refl _)] at F
      have FF := Lib.hid (F.freshB HH.out.2 rfl)
      go_wp2
      go_ret
      exact ⟨_, rfl, FF.out⟩
end Go.Proofs.Ytokhogdocaeelaa
