/- BytesToInts and DatabaseDigest of both sides. -/
import Derived.Test.YtdnifmcipbnncaaHash
import Derived.Test.YtdnifmcipbnncaaStream
import Derived.Test.YtdnifmcipbnncaaRead
namespace Go.Proofs.Ytdnifmcipbnncaa
set_option linter.unusedVariables false
open Go.RowKit

def b2i (d : List UInt8) : List Int := (d.length : Int) :: d.map (fun x => (x.toNat : Int))
theorem b2i_len (d : List UInt8) : (b2i d).length = d.length + 1 := by simp [b2i]
def b2iP (n : Nat) (d : List UInt8) : List Int := (n : Int) :: d.map (fun x => (x.toNat : Int))
theorem b2iP_snoc (n : Nat) (d : List UInt8) (x : UInt8) : b2iP n (d ++ [x]) = b2iP n d ++ [(x.toNat : Int)] := by simp [b2iP]
def digP (n : Nat) (l : List (List UInt8)) : List Int := (n : Int) :: (l.map b2i).flatten
def dbInts (l : List (List UInt8)) : List Int := digP l.length l
theorem digP_snoc (n : Nat) (l : List (List UInt8)) (x : List UInt8) : digP n (l ++ [x]) = digP n l ++ b2i x := by simp [digP]
theorem digP_len (n : Nat) (l : List (List UInt8)) : (digP n l).length = 1 + tot l := by
  induction l with
  | nil => simp [digP, tot, sumL]
  | cons x l ih =>
    simp [digP, tot, sumL, b2i_len] at ih ⊢
    omega
theorem tot_take_le {α : Type} (l : List (List α)) (k : Nat) : tot (l.take k) ≤ tot l := by
  unfold tot
  have := sumL_take_le l k
  have : (l.take k).length ≤ l.length := by rw [List.length_take]; omega
  omega

set_option maxHeartbeats 1000000 in
theorem specB2I_c (v : Value) (d : List UInt8) (w : World) (h : Rd RB w v d) (hn : d.length ≤ 1048576) :
    Calls Try.prog 72 #[v] w fun e w' => ∃ v', e = .returned v' ∧ Fresh (Own 3 FI) w w' v' (b2i d) := by
  obtain ⟨A, n, cap, rfl, h⟩ := h
  have hnn : n ≤ 1048576 := h.1 ▸ hn
  have H := Lib.hid h
  clear h hn
  go_enter Try.func72, Try.ntmps72
  go_wp2
  go_loopw [3, 4] (fun o i wr => ∃ j : Nat, j ≤ n ∧ i = .int .i64 j ∧ Row 3 w.heap.size wr o (j + 1) ((b2iP n (d.take j)).map (fun x => Value.int .i64 x)) ∧ Below w.heap.size w wr) (fun _ i _ => n - (intOf i).toNat)
  case atStart => exact ⟨0, Nat.zero_le _, rfl, Row_lit w #[.int .i64 n] (Nat.le_refl _) (by simp [maxLen]), below_alloc w _⟩
  case round =>
    obtain ⟨j, hj, rfl, hrow, hb⟩ := hrel
    by_cases hlt : j < n
    · obtain ⟨b, off, x, u, rfl, hbb, hx, hu, hr⟩ := H.out.at_ hlt
      have g1 := (hb.cell (p := ⟨b, off + j, none⟩) hbb).trans hu
      unfold RB at hr
      subst hr
      have HS : Hid (b2iP n (d.take (j + 1)) = b2iP n (d.take j) ++ [(x.toNat : Int)]) := Lib.hid (by rw [take_succ_get d j x hx, b2iP_snoc])
      clear hx hu
      have hx1 := x.toNat_lt
      go_wp2_with (at_builtin; refine wpList_app elI rfl (.tmp 14) (.tmp 20) rfl _ (j + 1) _ rfl (hrow.1.alloc _) (some ⟨wr.heap.size, 0, none⟩) 1 1 [.int .i64 (x.toNat : Int)] rfl (Src_one _ _ _) (one_single _ rfl) (by simp only [maxLen]; omega) (by omega) ?_; intro v2 w2 hown2 hg2 hat2)
      have r := hrow.app hb hb.size hown2 hg2 hat2
      rw [show (b2iP n (d.take j)).map (fun x => Value.int .i64 x) ++ [.int .i64 (x.toNat : Int)] = (b2iP n (d.take (j + 1))).map (fun x => Value.int .i64 x) by rw [HS.out]; simp] at r
      go_roundw
      case rel => exact ⟨j + 1, by omega, by go_num, r.1, r.2⟩
      case measure => simp [intOf]; omega
    · have hjn : j = n := by omega
      subst hjn
      have hfull : b2iP j (d.take j) = b2i d := by rw [List.take_of_length_le (by have := H.out.1; omega)]; unfold b2i; rw [H.out.1]; rfl
      rw [hfull] at hrow
      clear hfull
      go_wp2
      go_ret
      exact ⟨_, rfl, hrow.freshI hb rfl⟩
set_option maxHeartbeats 1000000 in
theorem implB2I_c (v : Value) (d : List UInt8) (w : World) (h : Rd RB w v d) (hn : d.length ≤ 1048576) :
    Calls Try.prog 74 #[v] w fun e w' => ∃ v', e = .returned v' ∧ Fresh (Own 3 FI) w w' v' (b2i d) := by
  obtain ⟨A, n, cap, rfl, h⟩ := h
  have hnn : n ≤ 1048576 := h.1 ▸ hn
  have H := Lib.hid h
  clear h hn
  go_enter Try.func74, Try.ntmps74
  go_wp2
  go_loopw [3, 11] (fun o i wr => ∃ j : Nat, j ≤ n ∧ i = .int .i64 j ∧ Row 3 w.heap.size wr o (j + 1) ((b2iP n (d.take j)).map (fun x => Value.int .i64 x)) ∧ Below w.heap.size w wr) (fun _ i _ => n - (intOf i).toNat)
  case atStart => exact ⟨0, Nat.zero_le _, rfl, Row_lit w #[.int .i64 n] (Nat.le_refl _) (by simp [maxLen]), below_alloc w _⟩
  case round =>
    obtain ⟨j, hj, rfl, hrow, hb⟩ := hrel
    by_cases hlt : j < n
    · obtain ⟨b, off, x, u, rfl, hbb, hx, hu, hr⟩ := H.out.at_ hlt
      have g1 := (hb.cell (p := ⟨b, off + j, none⟩) hbb).trans hu
      unfold RB at hr
      subst hr
      have HS : Hid (b2iP n (d.take (j + 1)) = b2iP n (d.take j) ++ [(x.toNat : Int)]) := Lib.hid (by rw [take_succ_get d j x hx, b2iP_snoc])
      clear hx hu
      have hx1 := x.toNat_lt
      go_wp2_with (at_builtin; refine wpList_app elI rfl (.tmp 15) (.tmp 18) rfl _ (j + 1) _ rfl (hrow.1.alloc _) (some ⟨wr.heap.size, 0, none⟩) 1 1 [.int .i64 (x.toNat : Int)] rfl (Src_one _ _ _) (one_single _ rfl) (by simp only [maxLen]; omega) (by omega) ?_; intro v2 w2 hown2 hg2 hat2)
      have r := hrow.app hb hb.size hown2 hg2 hat2
      rw [show (b2iP n (d.take j)).map (fun x => Value.int .i64 x) ++ [.int .i64 (x.toNat : Int)] = (b2iP n (d.take (j + 1))).map (fun x => Value.int .i64 x) by rw [HS.out]; simp] at r
      go_roundw
      case rel => exact ⟨j + 1, by omega, by go_num, r.1, r.2⟩
      case measure => simp [intOf]; omega
    · have hjn : j = n := by omega
      subst hjn
      have hfull : b2iP j (d.take j) = b2i d := by rw [List.take_of_length_le (by have := H.out.1; omega)]; unfold b2i; rw [H.out.1]; rfl
      rw [hfull] at hrow
      clear hfull
      go_wp2
      go_ret
      exact ⟨_, rfl, hrow.freshI hb rfl⟩
set_option maxHeartbeats 1000000 in
theorem specDigest_c (v : Value) (xs : List (List UInt8)) (w : World) (h : Rd (Rd RB) w v xs) (hn : tot xs ≤ 1048576) :
    Calls Try.prog 35 #[.agg #[v]] w fun e w' => e = .returned (.int .i64 (hash (dbInts xs))) ∧ Below w.heap.size w w' := by
  obtain ⟨A, n, cap, rfl, h⟩ := h
  have hnn : n ≤ 1048576 := by have := h.1; have := len_le_tot xs; omega
  have hsl := sumL_le xs
  have HL : Hid (∀ j, (digP n (xs.take j)).length ≤ 1048577) := Lib.hid (fun j => by rw [digP_len]; have := tot_take_le xs j; omega)
  have b0 := below_alloc w (.cells #[.slice A n cap] 27)
  have BX := Lib.hid (Box.new w 27 #[.slice A n cap])
  have H := Lib.hid h
  clear h
  go_enter Try.func35, Try.ntmps35
  go_wp2
  go_loopw [3, 4] (fun o i wr => ∃ j m : Nat, j ≤ n ∧ i = .int .i64 j ∧ Row 3 (w.heap.size + 1) wr o m ((digP n (xs.take j)).map (fun x => Value.int .i64 x)) ∧ Below w.heap.size w wr ∧ Hid (Box wr w.heap.size 27 #[.slice A n cap]) ∧ Below (w.heap.size + 1) (w.alloc (.cells #[.slice A n cap] 27)) wr) (fun _ i _ => n - (intOf i).toNat)
  case atStart =>
    have q := Row_lit (E := 3) (B := w.heap.size + 1) (w.alloc (.cells #[.slice A n cap] 27)) #[.int .i64 n] (by simp) (by simp [maxLen])
    exact ⟨0, 1, Nat.zero_le _, rfl, by simpa [digP] using q, b0.alloc (by simp) _, Lib.hid (BX.out.alloc _), by simpa using below_alloc (w.alloc (.cells #[.slice A n cap] 27)) (.cells #[.int .i64 n] 3)⟩
  case round =>
    obtain ⟨j, m, hj, rfl, hrow, hb, hbx, hb1⟩ := hrel
    have cb : wr.cell? ⟨w.heap.size, 0, none⟩ = some (.slice A n cap) := hbx.out.cell 0
    have hm : m ≤ 1048577 := by have := HL.out j; have e := hrow.1.1; rw [List.length_map] at e; omega
    by_cases hlt : j < n
    · obtain ⟨b, off, x, u, rfl, hbb, hx, hu, hr⟩ := H.out.at_ hlt
      have g1 := (hb.cell (p := ⟨b, off + j, none⟩) hbb).trans hu
      have r1 : Rd RB wr u x := Rd_reads RB_reads _ _ _ _ hr hb
      have hxl := get_le_sumL xs j x hx
      have HS : Hid (digP n (xs.take (j + 1)) = digP n (xs.take j) ++ b2i x) := Lib.hid (by rw [take_succ_get xs j x hx, digP_snoc])
      clear hx hu hr
      go_wp2_with fail
      refine (specB2I_c _ x _ r1 (by omega)).mono ?_
      rintro e w1 ⟨v1, rfl, F⟩
      obtain ⟨A', l', c', rfl⟩ := fresh_slice F
      have hR := F.iv (Own_good FI_good)
      have hRd := hR.rd (fun k => k.ri)
      obtain ⟨_, _, _, hre, RR⟩ := hRd
      injection hre with e1 e2 e3
      subst e1 e2 e3
      have hl' : l' ≤ 1048577 := by have := RR.1; rw [b2i_len] at this; omega
      have hrow1 := Lib.hid (hrow.below F.below)
      have hs := hb1.size
      simp at hs
      have hb2 := Lib.hid (hb.trans (F.below.mono hb.size))
      have hb3 := Lib.hid (hb1.trans (F.below.mono (by simpa using hb1.size)))
      have hbx1 := Lib.hid (hbx.out.below F.below hbx.out.lt)
      have SR := Lib.hid RR.srcI
      have hs1 := F.below.size
      clear F hR RR r1 hrow hb hb1 hbx
      go_wp2_with (at_builtin; refine wpList_app elI rfl (.tmp 16) (.tmp 22) rfl _ m _ rfl hrow1.out.1 A' l' c' _ rfl SR.out (one_mapI _) (by simp only [maxLen]; omega) (by omega) ?_; intro v2 w2 hown2 hg2 hat2)
      have r := hrow1.out.app0 (a := w.alloc (.cells #[.slice (some ⟨b, off, none⟩) n cap] 27)) hb3.out (by omega) hown2 hg2 hat2
      rw [← List.map_append, ← HS.out] at r
      have q1 := hb2.out.grown hg2 (by have := hb2.out.size; omega) (fun k hk => by have := hrow1.out.2 k hk; omega)
      have q2 : Box w2 w.heap.size 27 #[.slice (some ⟨b, off, none⟩) n cap] := hbx1.out.grown hg2 (fun hc => by have := hrow1.out.2 w.heap.size hc.symm; omega)
      have Q2 := Lib.hid q2
      clear q2 hown2 hg2 hat2
      go_roundw
      case rel => exact ⟨j + 1, _, by omega, by go_num, r.1, q1, Q2, r.2⟩
      case measure => simp [intOf]; omega
    · have hjn : j = n := by omega
      subst hjn
      have hfull : digP j (xs.take j) = dbInts xs := by rw [List.take_of_length_le (by have := H.out.1; omega)]; unfold dbInts; rw [H.out.1]
      rw [hfull] at hrow
      clear hfull
      go_wp2_with fail
      refine (specHash_c _ (dbInts xs) _ (rd_rowI hrow.1 rfl)).mono ?_
      rintro e w3 ⟨rfl, rfl⟩
      go_wp2
      go_ret
      exact ⟨rfl, hb⟩
set_option maxHeartbeats 1000000 in
theorem implDigest_c (v : Value) (xs : List (List UInt8)) (w : World) (h : Rd (Rd RB) w v xs) (hn : tot xs ≤ 1048576) :
    Calls Try.prog 36 #[.agg #[v]] w fun e w' => e = .returned (.int .i64 (hash (dbInts xs))) ∧ Below w.heap.size w w' := by
  obtain ⟨A, n, cap, rfl, h⟩ := h
  have hnn : n ≤ 1048576 := by have := h.1; have := len_le_tot xs; omega
  have hsl := sumL_le xs
  have HL : Hid (∀ j, (digP n (xs.take j)).length ≤ 1048577) := Lib.hid (fun j => by rw [digP_len]; have := tot_take_le xs j; omega)
  have b0 := below_alloc w (.cells #[.slice A n cap] 27)
  have BX := Lib.hid (Box.new w 27 #[.slice A n cap])
  have H := Lib.hid h
  clear h
  go_enter Try.func36, Try.ntmps36
  go_wp2
  go_loopw [3, 13] (fun o i wr => ∃ j m : Nat, j ≤ n ∧ i = .int .i64 j ∧ Row 3 (w.heap.size + 1) wr o m ((digP n (xs.take j)).map (fun x => Value.int .i64 x)) ∧ Below w.heap.size w wr ∧ Hid (Box wr w.heap.size 27 #[.slice A n cap]) ∧ Below (w.heap.size + 1) (w.alloc (.cells #[.slice A n cap] 27)) wr) (fun _ i _ => n - (intOf i).toNat)
  case atStart =>
    have q := Row_lit (E := 3) (B := w.heap.size + 1) (w.alloc (.cells #[.slice A n cap] 27)) #[.int .i64 n] (by simp) (by simp [maxLen])
    exact ⟨0, 1, Nat.zero_le _, rfl, by simpa [digP] using q, b0.alloc (by simp) _, Lib.hid (BX.out.alloc _), by simpa using below_alloc (w.alloc (.cells #[.slice A n cap] 27)) (.cells #[.int .i64 n] 3)⟩
  case round =>
    obtain ⟨j, m, hj, rfl, hrow, hb, hbx, hb1⟩ := hrel
    have cb : wr.cell? ⟨w.heap.size, 0, none⟩ = some (.slice A n cap) := hbx.out.cell 0
    have hm : m ≤ 1048577 := by have := HL.out j; have e := hrow.1.1; rw [List.length_map] at e; omega
    by_cases hlt : j < n
    · obtain ⟨b, off, x, u, rfl, hbb, hx, hu, hr⟩ := H.out.at_ hlt
      have g1 := (hb.cell (p := ⟨b, off + j, none⟩) hbb).trans hu
      have r1 : Rd RB wr u x := Rd_reads RB_reads _ _ _ _ hr hb
      have hxl := get_le_sumL xs j x hx
      have HS : Hid (digP n (xs.take (j + 1)) = digP n (xs.take j) ++ b2i x) := Lib.hid (by rw [take_succ_get xs j x hx, digP_snoc])
      clear hx hu hr
      go_wp2_with fail
      refine (implB2I_c _ x _ r1 (by omega)).mono ?_
      rintro e w1 ⟨v1, rfl, F⟩
      obtain ⟨A', l', c', rfl⟩ := fresh_slice F
      have hR := F.iv (Own_good FI_good)
      have hRd := hR.rd (fun k => k.ri)
      obtain ⟨_, _, _, hre, RR⟩ := hRd
      injection hre with e1 e2 e3
      subst e1 e2 e3
      have hl' : l' ≤ 1048577 := by have := RR.1; rw [b2i_len] at this; omega
      have hrow1 := Lib.hid (hrow.below F.below)
      have hs := hb1.size
      simp at hs
      have hb2 := Lib.hid (hb.trans (F.below.mono hb.size))
      have hb3 := Lib.hid (hb1.trans (F.below.mono (by simpa using hb1.size)))
      have hbx1 := Lib.hid (hbx.out.below F.below hbx.out.lt)
      have SR := Lib.hid RR.srcI
      have hs1 := F.below.size
      clear F hR RR r1 hrow hb hb1 hbx
      go_wp2_with (at_builtin; refine wpList_app elI rfl (.tmp 17) (.tmp 19) rfl _ m _ rfl hrow1.out.1 A' l' c' _ rfl SR.out (one_mapI _) (by simp only [maxLen]; omega) (by omega) ?_; intro v2 w2 hown2 hg2 hat2)
      have r := hrow1.out.app0 (a := w.alloc (.cells #[.slice (some ⟨b, off, none⟩) n cap] 27)) hb3.out (by omega) hown2 hg2 hat2
      rw [← List.map_append, ← HS.out] at r
      have q1 := hb2.out.grown hg2 (by have := hb2.out.size; omega) (fun k hk => by have := hrow1.out.2 k hk; omega)
      have q2 : Box w2 w.heap.size 27 #[.slice (some ⟨b, off, none⟩) n cap] := hbx1.out.grown hg2 (fun hc => by have := hrow1.out.2 w.heap.size hc.symm; omega)
      have Q2 := Lib.hid q2
      clear q2 hown2 hg2 hat2
      go_roundw
      case rel => exact ⟨j + 1, _, by omega, by go_num, r.1, q1, Q2, r.2⟩
      case measure => simp [intOf]; omega
    · have hjn : j = n := by omega
      subst hjn
      have hfull : digP j (xs.take j) = dbInts xs := by rw [List.take_of_length_le (by have := H.out.1; omega)]; unfold dbInts; rw [H.out.1]
      rw [hfull] at hrow
      clear hfull
      go_wp2_with fail
      refine (implHash_c _ (dbInts xs) _ (rd_rowI hrow.1 rfl)).mono ?_
      rintro e w3 ⟨rfl, rfl⟩
      go_wp2
      go_ret
      exact ⟨rfl, hb⟩
end Go.Proofs.Ytdnifmcipbnncaa
