/- JoinQuery and ExplainSelections of both sides. -/
import Derived.Test.YtceogegjghmonaaSel
import Derived.Test.YtceogegjghmonaaNestFns
import Derived.Deep.QuietTactic
import Derived.BigQuiet
namespace Go.Proofs.Ytceogegjghmonaa
set_option linter.unusedVariables false
open Go.RowKit

def hdL (l : List (List Int)) : Nat := (l.headD []).length
theorem hdL_of {l : List (List Int)} {x : List Int} (h : l[0]? = some x) : hdL l = x.length := by
  cases l with
  | nil => simp at h
  | cons y l => simp at h; subst h; rfl
def selsOk (r : Int) (l : List (List Int)) : Bool := l.all (fun x => isSel x r)
theorem selsOk_bad {r : Int} {l : List (List Int)} {k : Nat} {x : List Int} (hx : l[k]? = some x) (h : isSel x r = false) : selsOk r l = false := List.all_eq_false.2 ⟨x, List.mem_of_getElem? hx, by simp [h]⟩
theorem selsOk_snoc {r : Int} {l : List (List Int)} {k : Nat} {x : List Int} (h : selsOk r (l.take k) = true) (hx : l[k]? = some x) (hp : isSel x r = true) : selsOk r (l.take (k + 1)) = true := by
  unfold selsOk at *
  rw [take_succ_get l k x hx, List.all_append, h]; simp [hp]
def foldSel (a : List Int) (l : List (List Int)) : List Int := l.foldl xorSel a
theorem foldSel_snoc (a : List Int) (l : List (List Int)) (x : List Int) : foldSel a (l ++ [x]) = xorSel (foldSel a l) x := by simp [foldSel]
theorem foldSel_len (a : List Int) (l : List (List Int)) : (foldSel a l).length ≤ max a.length 64 := by
  rcases List.eq_nil_or_concat l with rfl | ⟨l', x, rfl⟩
  · simp [foldSel]; omega
  · rw [List.concat_eq_append, foldSel_snoc]
    have := xorSel_len (foldSel a l') x
    omega
def jq (l : List (List Int)) : List Int := if selsOk (hdL l) l then (if l.length = 0 then [] else foldSel (List.replicate (hdL l) 0) l) else []
theorem jq_len (l : List (List Int)) : (jq l).length ≤ 1048576 + sumL l := by
  unfold jq
  split
  · split
    · simp
    · have := foldSel_len (List.replicate (hdL l) 0) l
      have h2 : hdL l ≤ sumL l := by
        cases l with
        | nil => simp [hdL]
        | cons y l => simp [hdL, sumL]
      rw [List.length_replicate] at this
      omega
  · simp
theorem fresh_zeros (w : World) (n : Nat) (h : n ≤ maxLen) : Fresh (Own 3 FI) w (w.alloc (.cells (madeCells #[.int .i64 0] n) 3)) (.slice (some ⟨w.heap.size, 0, none⟩) n n) (List.replicate n (0 : Int)) :=
  fresh_flatI (own_made w _ n h) (by simp) (fun b hb => by simp [Value.ownBlock] at hb; omega) (below_alloc w _)
theorem fresh_litI (w : World) : Fresh (Own 3 FI) w (w.alloc (.cells #[] 3)) (.slice (some ⟨w.heap.size, 0, none⟩) 0 0) ([] : List Int) := (Row_lit (E := 3) w #[] (Nat.le_refl _) (by simp)).freshI (below_alloc w _) rfl
theorem fresh_nilI (w w' : World) (hb : Below w.heap.size w w') : Fresh (Own 3 FI) w w' (.slice none 0 0) ([] : List Int) := fresh_flatI (World.ownsRow_nil _ _ _ _) rfl (by simp [Value.ownBlock]) hb

set_option maxHeartbeats 2000000 in
theorem implJoinQ_c (v : Value) (l : List (List Int)) (w : World) (h : Rd (Rd RI) w v l) (hn : tot l ≤ 1048576) :
    Calls Try.prog 22 #[v] w fun e w' => ∃ v', e = .returned v' ∧ Fresh (Own 3 FI) w w' v' (jq l) := by
  obtain ⟨A, n, c, rfl, h'⟩ := h
  obtain rfl := h'.1
  have hcm := Nat.le_trans h'.2.1 h'.2.2.1
  unfold maxLen at hcm
  have hsl := sumL_le l
  have hls := len_le_tot l
  have H := Lib.hid h'
  clear h'
  by_cases h0 : l.length = 0
  · have e : jq l = [] := by unfold jq; rw [if_pos h0]; split <;> rfl
    rw [e]
    have FN := Lib.hid (fresh_nilI w w (Below.refl _ _))
    have hz : (l.length : Int) = 0 := by omega
    have hb : ((l.length : Int) == 0) = true := beq_iff_eq.2 hz
    clear e h0
    go_enter Try.func22, Try.ntmps22
    go_wp2
    go_ret
    exact ⟨_, rfl, FN.out⟩
  · obtain ⟨b, off, x0, u0, rfl, hbb0, hx0, hu0, hr0⟩ := H.out.at_ (k := 0) (by omega)
    obtain ⟨Ay, ny, cy, rfl, hry⟩ := hr0
    obtain rfl := hry.1
    have hcy := Nat.le_trans hry.2.1 hry.2.2.1
    unfold maxLen at hcy
    have hyl : x0.length ≤ 1048576 := by have := get_le_sumL l 0 x0 hx0; omega
    have g0 : w.cell? ⟨b, off, none⟩ = some (.slice Ay x0.length cy) := by simpa using hu0
    have HD := Lib.hid (hdL_of hx0)
    have hz0 : 0 < l.length := by omega
    have hb : ((l.length : Int) == 0) = false := beq_eq_false_iff_ne.2 (by omega)
    have hz : ¬ (l.length : Int) = 0 := by omega
    have hmk : ∀ W : World, (Instr.makeSlice 27 (.int .i64 x0.length) (.int .i64 x0.length)).run Try.prog W = .ok (.slice (some ⟨W.heap.size, 0, none⟩) x0.length x0.length) (W.alloc (.cells (madeCells #[.int .i64 0] x0.length) 3)) := fun W => by
      simpa using run_mk elI .i64 .i64 x0.length (by omega) (by omega) W
    have FZ := Lib.hid (fresh_zeros w x0.length (by simp only [maxLen]; omega))
    have HN : Hid (¬ l.length = 0) := Lib.hid h0
    clear hu0 hry hx0 h0
    go_enter Try.func22, Try.ntmps22
    go_wp2
    go_loopw [4, 18] (fun o i wr => ∃ k : Nat, k ≤ l.length ∧ i = .int .i64 k ∧ Hid (Fresh (Own 3 FI) w wr o (foldSel (List.replicate x0.length 0) (l.take k))) ∧ Hid (selsOk (x0.length : Int) (l.take k) = true)) (fun _ i _ => l.length - (intOf i).toNat)
    case atStart => exact ⟨0, Nat.zero_le _, rfl, Lib.hid (by simpa [foldSel] using FZ.out), Lib.hid (by simp [selsOk])⟩
    case round =>
      obtain ⟨k, hk, rfl, F, hall⟩ := hrel
      have hb1 := F.out.below
      by_cases hlt : k < l.length
      · obtain ⟨b', off', x, u, he, hbb, hx, hu, hr⟩ := H.out.at_ hlt
        injection he with he
        injection he with he1 he2
        subst he1 he2
        obtain ⟨Ax, nx, cx, rfl, hrx⟩ := hr
        obtain rfl := hrx.1
        have hxl : x.length ≤ 1048576 := by have := get_le_sumL l k x hx; omega
        have g1 := (hb1.cell (p := ⟨b, off + k, none⟩) hbb).trans hu
        have g2 := (hb1.cell (p := ⟨b, off, none⟩) hbb).trans g0
        have RX : Hid (∀ n, Rd RI (wr.drewN n) (.slice Ax x.length cx) x) := Lib.hid (fun n => Rd_reads RI_reads _ _ _ _ ⟨_, _, _, rfl, hrx⟩ (below_drewN hb1 n))
        have hk0 : (0 : Int) ≤ (k : Int) := by omega
        have hkn : (k : Int) < (l.length : Int) := by omega
        have HX := Lib.hid hx
        have HFL := Lib.hid (foldSel_len (List.replicate x0.length 0) (l.take k))
        clear hu hrx hx
        cases hsk : isSel x (x0.length : Int) with
        | false =>
          have HC := Lib.hid (show jq l = [] by unfold jq; rw [HD.out, selsOk_bad HX.out hsk]; rfl)
          have SK : Hid (∀ n, Calls Try.prog 87 #[.slice Ax x.length cx, .int .i64 (x0.length : Int)] (wr.drewN n) fun e w' => e = .returned (.bool false) ∧ wr.drewN n = w') := Lib.hid (fun n => by rw [← hsk]; exact implIsSel_c _ x _ _ (RX.out n))
          clear hsk
          have SK0 := SK.out 0
          have FB := Lib.hid (fresh_nilI w wr hb1)
          go_wp2_with fail
          refine ((SK0 : Calls Try.prog 87 #[.slice Ax x.length cx, .int .i64 (x0.length : Int)] wr _)).mono ?_
          rintro e w2 ⟨rfl, hw2⟩
          obtain rfl : wr = w2 := hw2
          go_wp2
          rw [HC.out]
          go_ret
          exact ⟨_, rfl, FB.out⟩
        | true =>
          have SK : Hid (∀ n, Calls Try.prog 87 #[.slice Ax x.length cx, .int .i64 (x0.length : Int)] (wr.drewN n) fun e w' => e = .returned (.bool true) ∧ wr.drewN n = w') := Lib.hid (fun n => by rw [← hsk]; exact implIsSel_c _ x _ _ (RX.out n))
          have HA := Lib.hid (selsOk_snoc hall.out HX.out hsk)
          have HS : Hid (foldSel (List.replicate x0.length 0) (l.take (k + 1)) = xorSel (foldSel (List.replicate x0.length 0) (l.take k)) x) := Lib.hid (by rw [take_succ_get l k x HX.out, foldSel_snoc])
          have hfl : (foldSel (List.replicate x0.length 0) (l.take k)).length ≤ 1048576 := by have := HFL.out; rw [List.length_replicate] at this; omega
          clear hsk
          have SK0 := Lib.hid (SK.out 0)
          have r0 := (F.out.iv (Own_good FI_good)).rd (fun q => q.ri)
          have r1 : Rd RI wr (.slice Ax x.length cx) x := RX.out 0
          go_wp2_with fail
          refine ((SK0.out : Calls Try.prog 87 #[.slice Ax x.length cx, .int .i64 (x0.length : Int)] wr _)).mono ?_
          rintro e w2 ⟨rfl, hw2⟩
          obtain rfl : wr = w2 := hw2
          go_wp2_with fail
          refine (implXorSel_c _ _ _ x _ r0 r1 (by omega)).mono ?_
          rintro e w2 ⟨v2, rfl, F1⟩
          have F2 := Lib.hid (Fresh.pre hb1 F1)
          clear F1 r0 r1 g1 g2 hb1 F
          go_wp2
          go_roundw
          case rel => exact ⟨k + 1, by omega, by go_num, Lib.hid (by rw [HS.out]; exact F2.out), HA⟩
          case measure => simp [intOf]; omega
      · have hkn : k = l.length := by omega
        subst hkn
        have F2 : Hid (Fresh (Own 3 FI) w wr _ (jq l)) := Lib.hid (by
          have h1 := F.out
          have h2 := hall.out
          rw [List.take_of_length_le (Nat.le_refl _)] at h1 h2
          unfold jq
          rw [HD.out, h2, if_pos rfl, if_neg HN.out]
          exact h1)
        clear F hb1 hall
        go_wp2
        go_ret
        exact ⟨_, rfl, F2.out⟩
def esOk (l : List (List Int)) (r i : Int) : Bool := unitOk r i && selsOk r l
def es (l : List (List Int)) (r i : Int) : List Int := if esOk l r i then foldSel (unitSel r i) l else []
theorem es_len (l : List (List Int)) (r i : Int) : (es l r i).length ≤ 64 := by
  unfold es
  split
  · have := foldSel_len (unitSel r i) l
    have := unitSel_len r i
    omega
  · simp
theorem unitSel_no {r i : Int} (h : unitOk r i = false) : unitSel r i = [] := by unfold unitSel; rw [h]; rfl
theorem unitSel_pos {r i : Int} (h : unitOk r i = true) : 1 ≤ (unitSel r i).length := by
  unfold unitSel
  rw [h]
  unfold unitOk at h
  simp at h
  simp
  omega
end Go.Proofs.Ytceogegjghmonaa
