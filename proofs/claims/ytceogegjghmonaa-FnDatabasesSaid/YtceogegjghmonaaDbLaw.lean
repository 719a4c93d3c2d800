/- The plain law of Databases, and the arguments of ReplaceRow as they are drawn. -/
import Derived.Test.YtceogegjghmonaaAqAlg
import Derived.Test.YtceogegjghmonaaDraw5
import Derived.Test.YtceogegjghmonaaRowAt
import Derived.Test.YtceogegjghmonaaXorRow
import Derived.Test.YtceogegjghmonaaXdb
namespace Go.Proofs.Ytceogegjghmonaa
set_option linter.unusedVariables false
open Go.RowKit

theorem repOk_iff {ds : List (List UInt8)} {j : Nat} {c : List UInt8} (hj : j < ds.length) (hc : c.length = 24) : repOk ds (j : Int) c = true := decide_eq_true ⟨⟨by omega, by omega⟩, hc⟩
theorem rep_eq {ds : List (List UInt8)} {j : Nat} {c : List UInt8} (h : repOk ds (j : Int) c = true) : repRow ds (j : Int) c = ds.set j c := by unfold repRow; rw [if_pos h, Int.toNat_natCast]
theorem rep_get {ds : List (List UInt8)} {j k : Nat} {c x : List UInt8} (hk : ds[k]? = some x) : (ds.set j c)[k]? = some (if k = j then c else x) := by
  have hl := (List.getElem?_eq_some_iff.1 hk).1
  rw [List.getElem?_set]
  by_cases h : j = k
  · subst h; simp [hl]
  · rw [if_neg h, hk, if_neg (fun e => h e.symm)]
theorem xr_law {ds : List (List UInt8)} {j : Nat} {c r : List UInt8} (hd : dbOk ds = true) (hr : ds[j]? = some r) (hc : c.length = 24) :
    xorOk ds (j : Int) c = true ∧ xorOk (xorRow ds (j : Int) c) (j : Int) c = true ∧ xorRow (xorRow ds (j : Int) c) (j : Int) c = ds ∧ sumL (xorRow ds (j : Int) c) ≤ 24 * ds.length ∧ (xorRow ds (j : Int) c).length = ds.length := by
  have hl := (List.getElem?_eq_some_iff.1 hr).1
  have hr24 := (dbOk_to hd).2 r (List.mem_of_getElem? hr)
  have g1 : ds.getD j [] = r := by simp [List.getD, hr]
  have o1 : xorOk ds (j : Int) c = true := by
    unfold xorOk
    rw [Int.toNat_natCast, g1]
    exact decide_eq_true ⟨⟨by omega, by omega⟩, hc, hr24⟩
  have e1 : xorRow ds (j : Int) c = ds.set j (xorB r c) := by unfold xorRow; rw [if_pos o1, Int.toNat_natCast, g1]
  have g2 : (ds.set j (xorB r c)).getD j [] = xorB r c := by simp [List.getD, hl]
  have hx24 : (xorB r c).length = 24 := by rw [xorB_len, hr24, hc]; rfl
  have o2 : xorOk (ds.set j (xorB r c)) (j : Int) c = true := by
    unfold xorOk
    rw [Int.toNat_natCast, g2, List.length_set]
    exact decide_eq_true ⟨⟨by omega, by omega⟩, hc, hx24⟩
  rw [e1]
  refine ⟨o1, o2, ?_, ?_, List.length_set⟩
  · unfold xorRow
    rw [if_pos o2, Int.toNat_natCast, g2, List.set_set, xorB_assoc, xor_sz hc, xor_zr hr24]
    exact set_self hr
  · have hL : LenB 24 (ds.set j (xorB r c)) := fun x hx => by
      rcases List.mem_or_eq_of_mem_set hx with h | h
      · exact (dbOk_to hd).2 x h
      · rw [h]; exact hx24
    have := sumL_le24 _ hL
    rwa [List.length_set] at this
theorem rep_valid {ds : List (List UInt8)} {j : Nat} {c : List UInt8} (hd : dbOk ds = true) (hc : c.length = 24) : dbOk (ds.set j c) = true := by
  refine dbOk_of (by rw [List.length_set]; exact (dbOk_to hd).1) (fun x hx => ?_)
  rcases List.mem_or_eq_of_mem_set hx with h | h
  · exact (dbOk_to hd).2 x h
  · rw [h]; exact hc
theorem xd_self {ds : List (List UInt8)} (hd : dbOk ds = true) : xdOk ds ds = true ∧ xorDb ds ds = newDb (ds.length : Int) := by
  have o : xdOk ds ds = true := by unfold xdOk; rw [hd]; simp
  refine ⟨o, ?_⟩
  unfold xorDb
  rw [if_pos o]
  unfold newDb
  rw [if_pos ⟨by omega, by have := (dbOk_to hd).1; omega⟩, Int.toNat_natCast]
  have hL := (dbOk_to hd).2
  clear o hd
  induction ds with
  | nil => rfl
  | cons x l ih =>
    rw [List.zipWith_cons_cons, ih (fun y hy => hL y (by simp [hy])), xor_sz (hL x (by simp))]
    rfl
theorem cnt_zero (n : Nat) : ((newDb (n : Int)).filter fun r => !isZero r).length = 0 := by
  have hz : isZero zcell = true := by decide
  rw [List.length_eq_zero_iff, List.filter_eq_nil_iff]
  intro x hx
  unfold newDb at hx
  split at hx
  · rw [(List.mem_replicate.1 hx).2, hz]; simp
  · cases hx

set_option maxHeartbeats 1000000 in
set_option maxRecDepth 100000 in
theorem drawRR_c (v : Value) (xs : List UInt8) (w : World) (hx : Rd RB w v xs) (hn : xs.length ≤ 1048576) :
    Calls Try.prog 30 #[v] w fun e w' => ∃ A l c ds i A2 l2 c2 cell, e = .returned (.tuple #[.agg #[.slice A l c], .int .i64 i, .slice A2 l2 c2]) ∧ Rd (Rd RB) w' (.slice A l c) ds ∧ Rd RB w' (.slice A2 l2 c2) cell ∧ ds.length ≤ 64 ∧ LenLe 25 ds ∧ (-1 ≤ i ∧ i ≤ 7) ∧ cell.length ≤ 25 ∧ Below w.heap.size w w' := by
  have bW := below_alloc w (.cells #[.slice none 0 0] 26)
  have hx1 := Rd_reads RB_reads _ _ _ _ hx bW
  have Br0 := Lib.hid (Box.new w 26 #[.slice none 0 0])
  have hs0 : (w.alloc (.cells #[.slice none 0 0] 26)).heap.size = w.heap.size + 1 := by simp
  have HS0 := Lib.hid hs0
  have BW := Lib.hid bW
  have NE := Lib.hid (new_c v xs (w.alloc (.cells #[.slice none 0 0] 26)) hx1 hn)
  have HX := Lib.hid hx1
  clear hx hx1 bW hs0
  go_enter Try.func30, Try.ntmps30
  go_wp2_with fail
  generalize w.alloc (.cells #[.slice none 0 0] 26) = w0 at *
  have hs0 : w.heap.size + 1 ≤ w0.heap.size := by have := HS0.out; omega
  have hne0 : w.heap.size ≠ w0.heap.size := by omega
  refine NE.out.mono ?_
  rintro e w1 ⟨rfl, hc⟩
  have C1 := Lib.hid hc
  have hl1 := hc.lt
  have Br1 := Lib.hid (Br0.out.below hc.below (by omega))
  clear hc NE Br0
  go_wp2_with fail
  refine (l8any_c v xs w0.heap.size w0 w1 HX.out hn C1.out).mono ?_
  rintro e w2 ⟨A, l, c, ds, rfl, D2, hc, hl, hle⟩
  have C2 := Lib.hid (hc.step (below_alloc w2 (.cells #[.slice A l c] 26)))
  have D2H := Lib.hid D2
  have Br2 := Lib.hid ((Br1.out.chg D2.chg hne0).alloc (.cells #[.slice A l c] 26))
  have Bd2 := Lib.hid (Box.new w2 26 #[.slice A l c])
  have hl2 := hc.lt
  have HLE := Lib.hid hle
  have G2 := Lib.hid (Chg.of_below (lo := w0.heap.size) (hi := w0.heap.size + 1) (below_alloc w2 (.cells #[.slice A l c] 26)))
  clear hc D2 hle Br1
  go_wp2_with fail
  refine (belowN_c v xs w0.heap.size 9 w0 _ HX.out hn (by omega) (by omega) C2.out).mono ?_
  rintro e w3 ⟨r, hr, rfl, hc, hg⟩
  have C3 : Hid (CurT w0 v w0.heap.size w3.drew) := Lib.hid hc.drew
  have G3 : Hid (Chg w0.heap.size (w0.heap.size + 1) w2 w3.drew) := Lib.hid ((G2.out.trans hg).drew_)
  have hsz : (w2.alloc (.cells #[.slice A l c] 26)).heap.size = w2.heap.size + 1 := by simp
  have hs3 := hg.size
  have hne2 : w2.heap.size ≠ w0.heap.size := by omega
  have Br3 : Hid (Box w3.drew w.heap.size 26 #[.slice none 0 0]) := Lib.hid (Br2.out.chg hg.drew_ hne0)
  have Bd3 : Hid (Box w3.drew w2.heap.size 26 #[.slice A l c]) := Lib.hid (Bd2.out.chg hg.drew_ hne2)
  have k0 : w3.drew.cell? ⟨w2.heap.size, 0, none⟩ = some (.slice A l c) := Bd3.out.cell 0
  have SD := Lib.hid (l8cell_c v xs w0.heap.size w0 w3.drew HX.out hn C3.out)
  have hl3 : w0.heap.size < w3.drew.heap.size := C3.out.lt
  clear hc hg Br2 Bd2 C2 G2
  go_wp2_with fail
  go_region_held3 (fun w' => w'.cell? ⟨w2.heap.size, 0, none⟩ = some (.slice A l c))
    (first | (exact k0) | (exact k1) | (exact k2) | go_keep)
    (first | (go_at_call 98; refine SD.out.mono ?_; rintro e w4 ⟨A2, l2, c2, cell, rfl, D4, hc4, hsl⟩; have Br4 := Lib.hid (Br3.out.chg D4.chg hne0); have Bd4 := Lib.hid (Bd3.out.chg D4.chg hne2); have k1 : w4.cell? ⟨w2.heap.size, 0, none⟩ = some (.slice A l c) := Bd4.out.cell 0; have x4 : w4.cell? ⟨w.heap.size, 0, none⟩ = some (.slice none 0 0) := Br4.out.cell 0; have y4 := Br4.out.frozen 0; have k2 : (w4.setCell ⟨w.heap.size, 0, none⟩ (.slice A l c)).cell? ⟨w2.heap.size, 0, none⟩ = some (.slice A l c) := (Bd4.out.far (p := ⟨w.heap.size, 0, none⟩) (by show w2.heap.size ≠ w.heap.size; omega) (.slice A l c)).cell 0; have c4 := (Br4.out.set_ 0 (.slice A l c)).cell 0; have D4H := Lib.hid D4; have C4 := Lib.hid hc4; clear D4 hc4))
  all_goals
    have ch : Chg w.heap.size (w0.heap.size + 1) w4 (w4.setCell ⟨w.heap.size, 0, none⟩ (.slice A l c)) := (Chg.refl _ _ w4).setCell (p := ⟨w.heap.size, 0, none⟩) (Nat.le_refl _) (by show w.heap.size < _; omega) _
    have r1 := Lib.hid (D2H.out.rdw (R' := Rd (Rd RB)) (Own_good (Own_good FB_good)) Own_rdBB hl1 (((G3.out.trans D4H.out.chg).widen (lo' := w.heap.size) (by omega) (Nat.le_refl _)).trans ch))
    have r2 := Lib.hid (D4H.out.rdw (R' := Rd RB) (Own_good FB_good) (fun q => q.rd (fun z => z.rb)) hl3 ch)
    have T := Lib.hid ((BW.out.trans (C4.out.below.mono (by omega))).setCell (p := ⟨w.heap.size, 0, none⟩) (Nat.le_refl _) (.slice A l c))
    clear ch
    go_wp2
    refine bodyPost_ret (v := .tuple #[.agg #[.slice A l c], .int .i64 (r - 1), .slice A2 l2 c2]) (by simp [results, Try.results30, go_sem, c4]) rfl ?_
    exact ⟨A, l, c, ds, r - 1, A2, l2, c2, cell, rfl, r1.out, r2.out, hl, HLE.out, by omega, hsl, T.out⟩
end Go.Proofs.Ytceogegjghmonaa
