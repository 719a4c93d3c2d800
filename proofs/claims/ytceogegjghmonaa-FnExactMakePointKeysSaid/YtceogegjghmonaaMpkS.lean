/- MakePointKeys of the reference, and both sides' failing branches. -/
import Derived.Test.YtceogegjghmonaaMpkI
namespace Go.Proofs.Ytceogegjghmonaa
set_option linter.unusedVariables false
open Go.RowKit

/-- What MakePointKeys hands back. -/
def MkRet (w : World) (r1 b1 r2 b2 : Int) (cs : List Corr) (ok : Bool) (e : Ending) (w' : World) : Prop := ∃ A1 l1 c1 A2 l2 c2, e = .returned (.tuple #[.agg #[.int .i64 r1, .int .i64 b1, .slice A1 l1 c1], .agg #[.int .i64 r2, .int .i64 b2, .slice A2 l2 c2], .bool ok]) ∧
  w'.ownsRow 0 116 3 (.slice A1 l1 c1) cs.length (cellsC cs) ∧ w'.ownsRow 0 116 3 (.slice A2 l2 c2) cs.length (cellsC cs) ∧ (∀ q, (Value.slice A1 l1 c1).ownBlock = some q → w.heap.size ≤ q) ∧ (∀ q, (Value.slice A2 l2 c2).ownBlock = some q → w.heap.size ≤ q) ∧ (∀ q, (Value.slice A1 l1 c1).ownBlock = some q → (Value.slice A2 l2 c2).ownBlock = some q → False) ∧ Below w.heap.size w w'
theorem MkFin.ret {w : World} {ra rb : Int} {n : Nat} {cs : List Corr} {e : Ending} {w' : World} (hn : cs.length = n) (h : MkFin w ra rb n cs e w') : MkRet w ra 0 rb 1 cs true e w' := by
  subst hn
  exact h
set_option maxRecDepth 100000 in
theorem wpList_appCN {ops : Array Oper} {rest : List Oper} {o : Oper} {a : Act} {Q : Exit → Act → World → Prop} {w : World} (hgd : o.guard = none) (s x : Operand)
    (ho : o.op = .call { callee := .builtin .append, args := #[s, x], argTypes := #[61, 61] }) (v : Value) (n : Nat) (cells : List Value) (hs : a.eval s = v) (hown : w.ownsRow 0 116 3 v n cells) (ad : Addr) (m c : Nat) (news : List Value) (hx : a.eval x = .slice (some ad) m c)
    (hl : news.length = m * 3) (hnews : ∀ j u, news[j]? = some u → w.cell? (ad.add j) = some u) (h1 : ∀ u ∈ news, u.oneCell' = true) (h63 : n ≤ 1000000) (h64 : m ≤ 1000000)
    (h : ∀ v' w', w'.ownsRow 0 116 3 v' (n + m) (cells ++ news) → w.grownBy w' v.ownBlock → (v'.ownBlock = v.ownBlock ∨ v'.ownBlock = some w.heap.size) → wpList Try.prog ops Q rest (a.put o.dst v') w') : wpList Try.prog ops Q (o :: rest) a w := by
  obtain ⟨i, hi, hzz⟩ := Option.map_eq_some_iff.1 elC_info
  simp only [Prod.mk.injEq] at hzz
  obtain ⟨hz, hsz, hb⟩ := hzz
  exact wpList_append_own_at w hgd s x 61 ho 0 116 i (.agg #[.int .i64 0, .int .i64 0, .int .i64 0]) 3 24 Try.underlying61 hi hz hsz hb rfl (by omega) v n cells hs hown ad m c news hx hl hnews h1 (by simp only [maxLen]; omega) (by omega) (Nat.zero_le _) (fun v' w' h1 h2 _ h3 => h v' w' h1 h2 h3)
/-- The reference half way: one row of corrections of its own, and two result boxes. -/
structure SpAt (PK C : TypeId) (w : World) (v : Value) (i : Nat) (cs : List Corr) (W : World) : Prop where
  r1 : Box W w.heap.size PK #[.int .i64 0, .int .i64 0, .slice none 0 0]
  r2 : Box W (w.heap.size + 1) PK #[.int .i64 0, .int .i64 0, .slice none 0 0]
  oa : W.ownsRow 0 C 3 v i (cellsC cs)
  ga : ∀ q, v.ownBlock = some q → w.heap.size + 2 ≤ q
  bel : Below w.heap.size w W
theorem SpAt.below {PK C : TypeId} {w : World} {v : Value} {i : Nat} {cs : List Corr} {W W' : World} (h : SpAt PK C w v i cs W) (hb : Below W.heap.size W W') : SpAt PK C w v i cs W' where
  r1 := h.r1.below hb h.r1.lt
  r2 := h.r2.below hb h.r2.lt
  oa := ownsC_at h.oa (fun q hq => hb.block q (h.oa.lt q hq).2)
  ga := h.ga
  bel := h.bel.trans (hb.mono h.bel.size)
theorem SpAt.app {PK C : TypeId} {w : World} {v v' : Value} {i : Nat} {cs : List Corr} {x : Corr} {W W' : World} {o : Obj} (h : SpAt PK C w v i cs W)
    (h1 : W'.ownsRow 0 C 3 v' (i + 1) (cellsC cs ++ [.int .i64 x.1, .int .i64 x.2.1, .int .i64 x.2.2])) (g1 : (W.alloc o).grownBy W' v.ownBlock) (t1 : v'.ownBlock = v.ownBlock ∨ v'.ownBlock = some (W.alloc o).heap.size) : SpAt PK C w v' (i + 1) (cs ++ [x]) W' := by
  have hcc : cellsC (cs ++ [x]) = cellsC cs ++ [.int .i64 x.1, .int .i64 x.2.1, .int .i64 x.2.2] := by rw [cellsC_append]; rfl
  have z1 : (W.alloc o).heap.size = W.heap.size + 1 := by simp
  have l1 := h.r1.lt
  have l2 := h.r2.lt
  have low : ∀ q, q < w.heap.size + 2 → some q ≠ v.ownBlock := fun q hq e => by have := h.ga q e.symm; omega
  exact {
    r1 := Box.grown (h.r1.alloc o) g1 (low _ (by omega))
    r2 := Box.grown (h.r2.alloc o) g1 (low _ (by omega))
    oa := by rw [hcc]; exact h1
    ga := fun q hq => by
      rcases t1 with e | e
      · exact h.ga q (e ▸ hq)
      · rw [e] at hq; injection hq with hq; omega
    bel := (h.bel.alloc h.bel.size o).grown g1 (by omega) (fun q hq => by have := h.ga q hq; omega) }
theorem mk_no (w : World) : MkRet w 0 0 0 0 [] false (.returned (.tuple #[.agg #[.int .i64 0, .int .i64 0, .slice none 0 0], .agg #[.int .i64 0, .int .i64 0, .slice none 0 0], .bool false])) ((w.alloc (.cells #[.int .i64 0, .int .i64 0, .slice none 0 0] 63)).alloc (.cells #[.int .i64 0, .int .i64 0, .slice none 0 0] 63)) :=
  ⟨none, 0, 0, none, 0, 0, rfl, World.ownsRow_nil _ _ _ _, World.ownsRow_nil _ _ _ _, fun q hq => by simp [Value.ownBlock] at hq, fun q hq => by simp [Value.ownBlock] at hq, fun q hq => by simp [Value.ownBlock] at hq, (below_alloc w _).alloc (by simp) _⟩
theorem ownC_form {C : TypeId} {w : World} {v : Value} {n : Nat} {cells : List Value} (h : w.ownsRow 0 C 3 v n cells) (hn : 1 ≤ n) : ∃ g ca, v = .slice (some ⟨g, 0, none⟩) n ca ∧ g < w.heap.size := by
  have hlt := h.lt
  rcases h.2 with ⟨_, h0⟩ | ⟨g, cap, cur, rfl, _⟩
  · omega
  · exact ⟨g, cap, rfl, (hlt g rfl).2⟩
theorem cellsC_one (xs : List Corr) : ∀ u ∈ cellsC xs, u.oneCell' = true := by
  induction xs with
  | nil => intro u hu; exact absurd hu (by simp [cellsC])
  | cons x xs ih =>
    intro u hu
    simp only [cellsC, List.flatMap_cons, List.mem_append, List.mem_cons, List.not_mem_nil, or_false] at hu
    rcases hu with (rfl | rfl | rfl) | hu
    · rfl
    · rfl
    · rfl
    · exact ih u hu
set_option maxHeartbeats 1000000 in
set_option maxRecDepth 100000 in
theorem specMpk_c (n : Nat) (p ra rb : Int) (w : World) (hn1 : 1 ≤ n) (hn6 : n ≤ 6) (hp0 : 0 ≤ p) (hp2 : p < 2 ^ n) (ha0 : 0 ≤ ra) (ha1 : ra ≤ 2147483646) (hb0 : 0 ≤ rb) (hb1 : rb ≤ 2147483646) :
    Calls Try.prog 52 #[.int .i64 (n : Int), .int .i64 p, .int .i64 ra, .int .i64 rb] w (MkRet w ra 0 rb 1 (kcs ra rb p n n) true) := by
  obtain ⟨q, hq, hq1, hq6⟩ := pow_bd n hn6
  rw [hq] at hp2
  have M0 : Hid (SpAt 63 116 w (.slice (some ⟨w.heap.size + 1 + 1, 0, none⟩) 0 0) 0 [] ((((w.alloc (.cells #[.int .i64 0, .int .i64 0, .slice none 0 0] 63)).alloc (.cells #[.int .i64 0, .int .i64 0, .slice none 0 0] 63)).alloc (.cells #[] 116)))) := Lib.hid (by
    obtain ⟨b1, b2, T, hs⟩ := boxes2 w 63 #[.int .i64 0, .int .i64 0, .slice none 0 0] 63 #[.int .i64 0, .int .i64 0, .slice none 0 0]
    exact {
      r1 := b1.alloc _
      r2 := b2.alloc _
      oa := by
        have := World.ownsRow_lit (base := 0) (e := 116) (size := 3) ((w.alloc (.cells #[.int .i64 0, .int .i64 0, .slice none 0 0] 63)).alloc (.cells #[.int .i64 0, .int .i64 0, .slice none 0 0] 63)) (#[] : Array Value) 0 (Nat.zero_le _) (by simp) (by simp)
        have hz : ((w.alloc (.cells #[.int .i64 0, .int .i64 0, .slice none 0 0] 63)).alloc (.cells #[.int .i64 0, .int .i64 0, .slice none 0 0] 63)).heap.size = w.heap.size + 1 + 1 := by simp
        rw [hz] at this
        exact this
      ga := fun q hq => by simp [Value.ownBlock] at hq; omega
      bel := T.alloc T.size _ })
  go_enter Try.func52, Try.ntmps52
  go_wp2_with (first | (go_at_call 92; refine (specIn_t _ _ _ _ (by omega) (by omega)).mono ?_; rintro e w' ⟨rfl, rfl⟩))
  generalize (((w.alloc (.cells #[.int .i64 0, .int .i64 0, .slice none 0 0] 63)).alloc (.cells #[.int .i64 0, .int .i64 0, .slice none 0 0] 63)).alloc (.cells #[] 116)) = wI at *
  go_loopw [11, 12, 13, 14, 15, 16] (fun l sa sb ta tb k wr => ∃ (i : Nat) (S : KSt), i ≤ n ∧ k = .int .i64 ((n : Int) - 1 - (i : Int)) ∧ sa = .int .i64 S.sa ∧ ta = .int .i64 S.ta ∧ sb = .int .i64 S.sb ∧ tb = .int .i64 S.tb ∧ Hid (kst ra rb p n i = S) ∧ Hid (SpAt 63 116 w l i (kcs ra rb p n i) wr)) (fun _ _ _ _ _ k _ => (intOf k + 1).toNat)
  case atStart => exact ⟨0, ⟨ra, 0, rb, 1⟩, Nat.zero_le _, by congr 1; omega, rfl, rfl, rfl, rfl, Lib.hid rfl, M0⟩
  case round =>
    obtain ⟨i, S, hi, rfl, rfl, rfl, rfl, rfl, HS, HM⟩ := hrel
    clear M0
    obtain ⟨sa, ta, sb, tb⟩ := S
    by_cases hlt : i < n
    · have hd := sideAt_bd p n i
      have SD : Hid (sideAt p n i = p / 2 ^ (n - 1 - i) % 2) := Lib.hid rfl
      have wb : ((n : Int) - 1 - (i : Int)).toNat = n - 1 - i := by omega
      have wc : (0 : Int) ≤ (n : Int) - 1 - (i : Int) := by omega
      have wd : (n : Int) - 1 - (i : Int) ≤ 64 := by omega
      obtain ⟨d, hde⟩ : ∃ d, sideAt p n i = d := ⟨_, rfl⟩
      have HD := Lib.hid hde
      rw [hde] at hd SD
      clear hde
      go_wp2_with fail
      rw [i64_and1, ← SD.out]
      have hwr : wrap64 (1 - d) = 1 - d := by unfold wrap64; omega
      rw [hwr]
      have hd2 : d = 0 ∨ d = 1 := by omega
      clear hwr SD wb wc wd hd
      rcases hd2 with rfl | rfl
      · have hz : (1 : Int) - 0 = 1 := rfl
        rw [hz]
        refine (specChildSeed_c sa 1 _).mono ?_
        rintro e w1 ⟨rfl, b1⟩
        have tL := b1
        go_wp2_with fail
        refine (specChildSeed_c sb 1 _).mono ?_
        rintro e w2 ⟨rfl, b2⟩
        have tL := tL.trans (b2.mono tL.size)
        clear b2
        go_wp2_with fail
        refine (specControlBit_c sa 0 _).mono ?_
        rintro e w3 ⟨rfl, b3⟩
        have tL := tL.trans (b3.mono tL.size)
        clear b3
        go_wp2_with fail
        refine (specControlBit_c sb 0 _).mono ?_
        rintro e w4 ⟨rfl, b4⟩
        have tL := tL.trans (b4.mono tL.size)
        clear b4
        go_wp2_with fail
        refine (specControlBit_c sa 1 _).mono ?_
        rintro e w5 ⟨rfl, b5⟩
        have tL := tL.trans (b5.mono tL.size)
        clear b5
        go_wp2_with fail
        refine (specControlBit_c sb 1 _).mono ?_
        rintro e w6 ⟨rfl, b6⟩
        have tL := tL.trans (b6.mono tL.size)
        clear b6
        have BX : Hid (Box (w6.alloc (.cells #[.int .i64 (bits .xor .i64 (childS sa 1) (childS sb 1)), .int .i64 (bits .xor .i64 (bits .xor .i64 (ctlBit sa 0) (ctlBit sb 0)) 1), .int .i64 (bits .xor .i64 (ctlBit sa 1) (ctlBit sb 1))] 116)) w6.heap.size 116 #[.int .i64 (bits .xor .i64 (childS sa 1) (childS sb 1)), .int .i64 (bits .xor .i64 (bits .xor .i64 (ctlBit sa 0) (ctlBit sb 0)) 1), .int .i64 (bits .xor .i64 (ctlBit sa 1) (ctlBit sb 1))]) := Lib.hid (Box.new w6 116 #[.int .i64 (bits .xor .i64 (childS sa 1) (childS sb 1)), .int .i64 (bits .xor .i64 (bits .xor .i64 (ctlBit sa 0) (ctlBit sb 0)) 1), .int .i64 (bits .xor .i64 (ctlBit sa 1) (ctlBit sb 1))])
        have HM7 := Lib.hid (HM.out.below (tL.trans ((below_alloc w6 (.cells #[.int .i64 (bits .xor .i64 (childS sa 1) (childS sb 1)), .int .i64 (bits .xor .i64 (bits .xor .i64 (ctlBit sa 0) (ctlBit sb 0)) 1), .int .i64 (bits .xor .i64 (ctlBit sa 1) (ctlBit sb 1))] 116)).mono tL.size)))
        have hs7 : (w6.alloc (.cells #[.int .i64 (bits .xor .i64 (childS sa 1) (childS sb 1)), .int .i64 (bits .xor .i64 (bits .xor .i64 (ctlBit sa 0) (ctlBit sb 0)) 1), .int .i64 (bits .xor .i64 (ctlBit sa 1) (ctlBit sb 1))] 116)).heap.size = w6.heap.size + 1 := by simp
        have SR : Hid (Src ((w6.alloc (.cells #[.int .i64 (bits .xor .i64 (childS sa 1) (childS sb 1)), .int .i64 (bits .xor .i64 (bits .xor .i64 (ctlBit sa 0) (ctlBit sb 0)) 1), .int .i64 (bits .xor .i64 (ctlBit sa 1) (ctlBit sb 1))] 116)).alloc (.cells #[.int .i64 (bits .xor .i64 (childS sa 1) (childS sb 1)), .int .i64 (bits .xor .i64 (bits .xor .i64 (ctlBit sa 0) (ctlBit sb 0)) 1), .int .i64 (bits .xor .i64 (ctlBit sa 1) (ctlBit sb 1))] 116)) (some ⟨w6.heap.size + 1, 0, none⟩) 3 [.int .i64 (bits .xor .i64 (childS sa 1) (childS sb 1)), .int .i64 (bits .xor .i64 (bits .xor .i64 (ctlBit sa 0) (ctlBit sb 0)) 1), .int .i64 (bits .xor .i64 (ctlBit sa 1) (ctlBit sb 1))]) := Lib.hid (by have h3 := Src_3 (w6.alloc (.cells #[.int .i64 (bits .xor .i64 (childS sa 1) (childS sb 1)), .int .i64 (bits .xor .i64 (bits .xor .i64 (ctlBit sa 0) (ctlBit sb 0)) 1), .int .i64 (bits .xor .i64 (ctlBit sa 1) (ctlBit sb 1))] 116)) (.int .i64 (bits .xor .i64 (childS sa 1) (childS sb 1))) (.int .i64 (bits .xor .i64 (bits .xor .i64 (ctlBit sa 0) (ctlBit sb 0)) 1)) (.int .i64 (bits .xor .i64 (ctlBit sa 1) (ctlBit sb 1))) 116; rw [hs7] at h3; exact h3)
        have HG : Hid (∀ q, q < wr.heap.size → q ≠ w6.heap.size) := Lib.hid (fun q hq => by have := tL.size; omega)
        have HL : Hid (∀ l q, (l : Value).ownBlock = some q → wr.ownsRow 0 116 3 l i (cellsC (kcs ra rb p n i)) → q < wr.heap.size) := Lib.hid (fun l q hq h => (h.lt q hq).2)
        have HO := Lib.hid HM.out.oa
        obtain ⟨Aa, la, ca, rfl⟩ := own_shape HM7.out.oa
        have i6 : i ≤ 1000000 := by omega
        clear tL HM hs7
        go_wp2_with (first | (at_builtin; refine wpList_appC rfl (.tmp 85) (.tmp 87) rfl (.slice Aa la ca) i _ rfl (ownsC_at HM7.out.oa (fun q hq => Below.heap_alloc _ _ q (HM7.out.oa.lt q hq).2)) (w6.heap.size + 1) 1 _ _ _ rfl SR.out i6 ?_; intro v10 w10 hown1 hg1 hat1; obtain ⟨A10, l10, c10, rfl⟩ := own_shape hown1; have BZ := Lib.hid (Box.grown (BX.out.alloc _) hg1 (fun e => HG.out _ (HL.out _ _ e.symm HO.out) rfl)); have y0 := BZ.out.cell 0; have y1 := BZ.out.cell 1; have y2 := BZ.out.cell 2; have HM10 := Lib.hid (HM7.out.app (x := ((bits .xor .i64 (childS sa 1) (childS sb 1)), (bits .xor .i64 (bits .xor .i64 (ctlBit sa 0) (ctlBit sb 0)) 1), (bits .xor .i64 (ctlBit sa 1) (ctlBit sb 1)))) hown1 hg1 hat1); clear hown1 hg1 hat1))
        clear BX HM7 SR HG HL HO
        refine (specNode_c sa ta 0 _ _ _ _).mono ?_
        rintro e w14 ⟨rfl, b14⟩
        have BZ14 := Lib.hid (BZ.out.below b14 BZ.out.lt)
        have HM14 := Lib.hid (HM10.out.below b14)
        have z0 := BZ14.out.cell 0
        have z1 := BZ14.out.cell 1
        have z2 := BZ14.out.cell 2
        clear b14 HM10 BZ y0 y1 y2
        go_wp2_with fail
        refine (specNode_c sb tb 0 _ _ _ _).mono ?_
        rintro e w15 ⟨rfl, b15⟩
        have HM15 := Lib.hid (HM14.out.below b15)
        clear b15 HM14 BZ14 z0 z1 z2
        have hC : mkCorr sa sb 0 = ((bits .xor .i64 (childS sa 1) (childS sb 1)), (bits .xor .i64 (bits .xor .i64 (ctlBit sa 0) (ctlBit sb 0)) 1), (bits .xor .i64 (ctlBit sa 1) (ctlBit sb 1))) := by simp [mkCorr, xorI]
        have HC := Lib.hid hC
        have HMF : Hid (SpAt 63 116 w (.slice A10 l10 c10) (i + 1) (kcs ra rb p n (i + 1)) w15) := Lib.hid (by
          have e : Go.Proofs.Ytceogegjghmonaa.kc ra rb p n i = ((bits .xor .i64 (childS sa 1) (childS sb 1)), (bits .xor .i64 (bits .xor .i64 (ctlBit sa 0) (ctlBit sb 0)) 1), (bits .xor .i64 (ctlBit sa 1) (ctlBit sb 1))) := by unfold Go.Proofs.Ytceogegjghmonaa.kc; rw [HS.out, HD.out]; exact hC
          rw [kcs_succ, e]
          exact HM15.out)
        have HSF : Hid (kst ra rb p n (i + 1) = (KSt.mk sa ta sb tb).next 0) := Lib.hid (by show (kst ra rb p n i).next (sideAt p n i) = _; rw [HS.out, HD.out])
        clear hC HM15
        go_wp2
        go_roundw
        case rel => exact ⟨i + 1, (KSt.mk sa ta sb tb).next 0, by omega, by first | go_num | (congr 1; omega), by show _ = Value.int .i64 (nodeS sa ta 0 (mkCorr sa sb 0)); rw [HC.out], by show _ = Value.int .i64 (nodeT sa ta 0 (mkCorr sa sb 0)); rw [HC.out], by show _ = Value.int .i64 (nodeS sb tb 0 (mkCorr sa sb 0)); rw [HC.out], by show _ = Value.int .i64 (nodeT sb tb 0 (mkCorr sa sb 0)); rw [HC.out], HSF, HMF⟩
        case measure => simp [intOf]; omega
      · have hz : (1 : Int) - 1 = 0 := rfl
        rw [hz]
        refine (specChildSeed_c sa 0 _).mono ?_
        rintro e w1 ⟨rfl, b1⟩
        have tL := b1
        go_wp2_with fail
        refine (specChildSeed_c sb 0 _).mono ?_
        rintro e w2 ⟨rfl, b2⟩
        have tL := tL.trans (b2.mono tL.size)
        clear b2
        go_wp2_with fail
        refine (specControlBit_c sa 0 _).mono ?_
        rintro e w3 ⟨rfl, b3⟩
        have tL := tL.trans (b3.mono tL.size)
        clear b3
        go_wp2_with fail
        refine (specControlBit_c sb 0 _).mono ?_
        rintro e w4 ⟨rfl, b4⟩
        have tL := tL.trans (b4.mono tL.size)
        clear b4
        go_wp2_with fail
        refine (specControlBit_c sa 1 _).mono ?_
        rintro e w5 ⟨rfl, b5⟩
        have tL := tL.trans (b5.mono tL.size)
        clear b5
        go_wp2_with fail
        refine (specControlBit_c sb 1 _).mono ?_
        rintro e w6 ⟨rfl, b6⟩
        have tL := tL.trans (b6.mono tL.size)
        clear b6
        have BX : Hid (Box (w6.alloc (.cells #[.int .i64 (bits .xor .i64 (childS sa 0) (childS sb 0)), .int .i64 (bits .xor .i64 (ctlBit sa 0) (ctlBit sb 0)), .int .i64 (bits .xor .i64 (bits .xor .i64 (ctlBit sa 1) (ctlBit sb 1)) 1)] 116)) w6.heap.size 116 #[.int .i64 (bits .xor .i64 (childS sa 0) (childS sb 0)), .int .i64 (bits .xor .i64 (ctlBit sa 0) (ctlBit sb 0)), .int .i64 (bits .xor .i64 (bits .xor .i64 (ctlBit sa 1) (ctlBit sb 1)) 1)]) := Lib.hid (Box.new w6 116 #[.int .i64 (bits .xor .i64 (childS sa 0) (childS sb 0)), .int .i64 (bits .xor .i64 (ctlBit sa 0) (ctlBit sb 0)), .int .i64 (bits .xor .i64 (bits .xor .i64 (ctlBit sa 1) (ctlBit sb 1)) 1)])
        have HM7 := Lib.hid (HM.out.below (tL.trans ((below_alloc w6 (.cells #[.int .i64 (bits .xor .i64 (childS sa 0) (childS sb 0)), .int .i64 (bits .xor .i64 (ctlBit sa 0) (ctlBit sb 0)), .int .i64 (bits .xor .i64 (bits .xor .i64 (ctlBit sa 1) (ctlBit sb 1)) 1)] 116)).mono tL.size)))
        have hs7 : (w6.alloc (.cells #[.int .i64 (bits .xor .i64 (childS sa 0) (childS sb 0)), .int .i64 (bits .xor .i64 (ctlBit sa 0) (ctlBit sb 0)), .int .i64 (bits .xor .i64 (bits .xor .i64 (ctlBit sa 1) (ctlBit sb 1)) 1)] 116)).heap.size = w6.heap.size + 1 := by simp
        have SR : Hid (Src ((w6.alloc (.cells #[.int .i64 (bits .xor .i64 (childS sa 0) (childS sb 0)), .int .i64 (bits .xor .i64 (ctlBit sa 0) (ctlBit sb 0)), .int .i64 (bits .xor .i64 (bits .xor .i64 (ctlBit sa 1) (ctlBit sb 1)) 1)] 116)).alloc (.cells #[.int .i64 (bits .xor .i64 (childS sa 0) (childS sb 0)), .int .i64 (bits .xor .i64 (ctlBit sa 0) (ctlBit sb 0)), .int .i64 (bits .xor .i64 (bits .xor .i64 (ctlBit sa 1) (ctlBit sb 1)) 1)] 116)) (some ⟨w6.heap.size + 1, 0, none⟩) 3 [.int .i64 (bits .xor .i64 (childS sa 0) (childS sb 0)), .int .i64 (bits .xor .i64 (ctlBit sa 0) (ctlBit sb 0)), .int .i64 (bits .xor .i64 (bits .xor .i64 (ctlBit sa 1) (ctlBit sb 1)) 1)]) := Lib.hid (by have h3 := Src_3 (w6.alloc (.cells #[.int .i64 (bits .xor .i64 (childS sa 0) (childS sb 0)), .int .i64 (bits .xor .i64 (ctlBit sa 0) (ctlBit sb 0)), .int .i64 (bits .xor .i64 (bits .xor .i64 (ctlBit sa 1) (ctlBit sb 1)) 1)] 116)) (.int .i64 (bits .xor .i64 (childS sa 0) (childS sb 0))) (.int .i64 (bits .xor .i64 (ctlBit sa 0) (ctlBit sb 0))) (.int .i64 (bits .xor .i64 (bits .xor .i64 (ctlBit sa 1) (ctlBit sb 1)) 1)) 116; rw [hs7] at h3; exact h3)
        have HG : Hid (∀ q, q < wr.heap.size → q ≠ w6.heap.size) := Lib.hid (fun q hq => by have := tL.size; omega)
        have HL : Hid (∀ l q, (l : Value).ownBlock = some q → wr.ownsRow 0 116 3 l i (cellsC (kcs ra rb p n i)) → q < wr.heap.size) := Lib.hid (fun l q hq h => (h.lt q hq).2)
        have HO := Lib.hid HM.out.oa
        obtain ⟨Aa, la, ca, rfl⟩ := own_shape HM7.out.oa
        have i6 : i ≤ 1000000 := by omega
        clear tL HM hs7
        go_wp2_with (first | (at_builtin; refine wpList_appC rfl (.tmp 85) (.tmp 87) rfl (.slice Aa la ca) i _ rfl (ownsC_at HM7.out.oa (fun q hq => Below.heap_alloc _ _ q (HM7.out.oa.lt q hq).2)) (w6.heap.size + 1) 1 _ _ _ rfl SR.out i6 ?_; intro v10 w10 hown1 hg1 hat1; obtain ⟨A10, l10, c10, rfl⟩ := own_shape hown1; have BZ := Lib.hid (Box.grown (BX.out.alloc _) hg1 (fun e => HG.out _ (HL.out _ _ e.symm HO.out) rfl)); have y0 := BZ.out.cell 0; have y1 := BZ.out.cell 1; have y2 := BZ.out.cell 2; have HM10 := Lib.hid (HM7.out.app (x := ((bits .xor .i64 (childS sa 0) (childS sb 0)), (bits .xor .i64 (ctlBit sa 0) (ctlBit sb 0)), (bits .xor .i64 (bits .xor .i64 (ctlBit sa 1) (ctlBit sb 1)) 1))) hown1 hg1 hat1); clear hown1 hg1 hat1))
        clear BX HM7 SR HG HL HO
        refine (specNode_c sa ta 1 _ _ _ _).mono ?_
        rintro e w14 ⟨rfl, b14⟩
        have BZ14 := Lib.hid (BZ.out.below b14 BZ.out.lt)
        have HM14 := Lib.hid (HM10.out.below b14)
        have z0 := BZ14.out.cell 0
        have z1 := BZ14.out.cell 1
        have z2 := BZ14.out.cell 2
        clear b14 HM10 BZ y0 y1 y2
        go_wp2_with fail
        refine (specNode_c sb tb 1 _ _ _ _).mono ?_
        rintro e w15 ⟨rfl, b15⟩
        have HM15 := Lib.hid (HM14.out.below b15)
        clear b15 HM14 BZ14 z0 z1 z2
        have hC : mkCorr sa sb 1 = ((bits .xor .i64 (childS sa 0) (childS sb 0)), (bits .xor .i64 (ctlBit sa 0) (ctlBit sb 0)), (bits .xor .i64 (bits .xor .i64 (ctlBit sa 1) (ctlBit sb 1)) 1)) := by simp [mkCorr, xorI]
        have HC := Lib.hid hC
        have HMF : Hid (SpAt 63 116 w (.slice A10 l10 c10) (i + 1) (kcs ra rb p n (i + 1)) w15) := Lib.hid (by
          have e : Go.Proofs.Ytceogegjghmonaa.kc ra rb p n i = ((bits .xor .i64 (childS sa 0) (childS sb 0)), (bits .xor .i64 (ctlBit sa 0) (ctlBit sb 0)), (bits .xor .i64 (bits .xor .i64 (ctlBit sa 1) (ctlBit sb 1)) 1)) := by unfold Go.Proofs.Ytceogegjghmonaa.kc; rw [HS.out, HD.out]; exact hC
          rw [kcs_succ, e]
          exact HM15.out)
        have HSF : Hid (kst ra rb p n (i + 1) = (KSt.mk sa ta sb tb).next 1) := Lib.hid (by show (kst ra rb p n i).next (sideAt p n i) = _; rw [HS.out, HD.out])
        clear hC HM15
        go_wp2
        go_roundw
        case rel => exact ⟨i + 1, (KSt.mk sa ta sb tb).next 1, by omega, by first | go_num | (congr 1; omega), by show _ = Value.int .i64 (nodeS sa ta 1 (mkCorr sa sb 1)); rw [HC.out], by show _ = Value.int .i64 (nodeT sa ta 1 (mkCorr sa sb 1)); rw [HC.out], by show _ = Value.int .i64 (nodeS sb tb 1 (mkCorr sa sb 1)); rw [HC.out], by show _ = Value.int .i64 (nodeT sb tb 1 (mkCorr sa sb 1)); rw [HC.out], HSF, HMF⟩
        case measure => simp [intOf]; omega
    · obtain rfl : n = i := by omega
      have z1 : ((n : Int) - 1 - (n : Int)) = -1 := by omega
      rw [z1]
      obtain ⟨g, ca, rfl, hgl⟩ := ownC_form HM.out.oa hn1
      have bA := below_alloc wr (.cells #[] 116)
      have OL : Hid ((wr.alloc (.cells #[] 116)).ownsRow 0 116 3 (.slice (some ⟨wr.heap.size, 0, none⟩) 0 0) 0 []) := Lib.hid (World.ownsRow_lit wr (#[] : Array Value) 0 (Nat.zero_le _) (by simp) (by simp))
      have HS2 : Hid (∀ j u, (cellsC (kcs ra rb p n n))[j]? = some u → (wr.alloc (.cells #[] 116)).cell? ((⟨g, 0, none⟩ : Addr).add j) = some u) := Lib.hid (fun j u hu => by
        have hj : j < (cellsC (kcs ra rb p n n)).length := (List.getElem?_eq_some_iff.1 hu).1
        rw [cellsC_len, kcs_len] at hj
        rw [addr_add, Nat.zero_add]
        refine (bA.cell (p := ⟨g, j, none⟩) hgl).trans ?_
        rw [HM.out.oa.cellAt j hj, hu])
      have hlC : (cellsC (kcs ra rb p n n)).length = n * 3 := by rw [cellsC_len, kcs_len]
      have i6 : n ≤ 1000000 := by omega
      go_wp2_with (first | (at_builtin; refine wpList_appCN rfl (.tmp 106) (.tmp 107) rfl (.slice (some ⟨wr.heap.size, 0, none⟩) 0 0) 0 [] rfl OL.out ⟨g, 0, none⟩ n ca (cellsC (kcs ra rb p n n)) rfl hlC HS2.out (cellsC_one _) (by omega) i6 ?_; intro v10 w10 hown1 hg1 hat1; obtain ⟨A10, l10, c10, rfl⟩ := own_shape hown1; have RR := Lib.hid (And.intro hown1 (And.intro hg1 hat1)); have R1 := Lib.hid (Box.grown (HM.out.r1.alloc _) hg1 (fun e => by have h1 := HM.out.r1.lt; simp [Value.ownBlock] at e; omega)); have R2 := Lib.hid (Box.grown (HM.out.r2.alloc _) hg1 (fun e => by have h1 := HM.out.r2.lt; simp [Value.ownBlock] at e; omega)); have x0 := R1.out.cell 0; have x1 := R1.out.cell 1; have x2 := R1.out.cell 2; have y0 := R1.out.frozen 0; have y1 := R1.out.frozen 1; have y2 := R1.out.frozen 2; have u0 := R2.out.cell 0; have u1 := R2.out.cell 1; have u2 := R2.out.cell 2; have v0 := R2.out.frozen 0; have v1 := R2.out.frozen 1; have v2 := R2.out.frozen 2; clear hown1 hg1 hat1))
      have hA : w.heap.size < w.heap.size + 2 := by omega
      have hB : w.heap.size + 1 < w.heap.size + 2 := by omega
      have hB2 : w.heap.size ≤ w.heap.size + 1 := by omega
      have d1 := (((Chg.refl w.heap.size (w.heap.size + 2) w10).setCell (p := ⟨w.heap.size, 0, none⟩) (Nat.le_refl _) hA (.int .i64 ra)).setCell (p := ⟨w.heap.size, 1, none⟩) (Nat.le_refl _) hA (.int .i64 0)).setCell (p := ⟨w.heap.size, 2, none⟩) (Nat.le_refl _) hA (.slice A10 l10 c10)
      have d2 : Chg w.heap.size (w.heap.size + 2) w10 ((((((w10.setCell ⟨w.heap.size, 0, none⟩ (.int .i64 ra)).setCell ⟨w.heap.size, 1, none⟩ (.int .i64 0)).setCell ⟨w.heap.size, 2, none⟩ (.slice A10 l10 c10)).setCell ⟨w.heap.size + 1, 0, none⟩ (.int .i64 rb)).setCell ⟨w.heap.size + 1, 1, none⟩ (.int .i64 1)).setCell ⟨w.heap.size + 1, 2, none⟩ (.slice (some ⟨g, 0, none⟩) n ca)) := ((d1.setCell (p := ⟨w.heap.size + 1, 0, none⟩) hB2 hB (.int .i64 rb)).setCell (p := ⟨w.heap.size + 1, 1, none⟩) hB2 hB (.int .i64 1)).setCell (p := ⟨w.heap.size + 1, 2, none⟩) hB2 hB (.slice (some ⟨g, 0, none⟩) n ca)
      have E1 := ((((((R1.out.set_ 0 (.int .i64 ra)).set_ 1 (.int .i64 0)).set_ 2 (.slice A10 l10 c10)).far (p := ⟨w.heap.size + 1, 0, none⟩) (by show w.heap.size ≠ w.heap.size + 1; omega) (.int .i64 rb)).far (p := ⟨w.heap.size + 1, 1, none⟩) (by show w.heap.size ≠ w.heap.size + 1; omega) (.int .i64 1)).far (p := ⟨w.heap.size + 1, 2, none⟩) (by show w.heap.size ≠ w.heap.size + 1; omega) (.slice (some ⟨g, 0, none⟩) n ca))
      have R2' := ((R2.out.far (p := ⟨w.heap.size, 0, none⟩) (by show w.heap.size + 1 ≠ w.heap.size; omega) (.int .i64 ra)).far (p := ⟨w.heap.size, 1, none⟩) (by show w.heap.size + 1 ≠ w.heap.size; omega) (.int .i64 0)).far (p := ⟨w.heap.size, 2, none⟩) (by show w.heap.size + 1 ≠ w.heap.size; omega) (.slice A10 l10 c10)
      have E2 := ((R2'.set_ 0 (.int .i64 rb)).set_ 1 (.int .i64 1)).set_ 2 (.slice (some ⟨g, 0, none⟩) n ca)
      rw [set3] at E1 E2
      have e10 := E1.cell 0
      have e11 := E1.cell 1
      have e12 := E1.cell 2
      have e20 := E2.cell 0
      have e21 := E2.cell 1
      have e22 := E2.cell 2
      have hs := HM.out.bel.size
      have hga := HM.out.ga g rfl
      have hwz : (wr.alloc (.cells #[] 116)).heap.size = wr.heap.size + 1 := by simp
      have hl := HM.out.r2.lt
      have hb10 : ∀ q, (Value.slice A10 l10 c10).ownBlock = some q → wr.heap.size ≤ q ∧ q < w10.heap.size := fun q hq => by
        refine ⟨?_, (RR.out.1.lt q hq).2⟩
        rcases RR.out.2.2 with h | h
        · rw [h] at hq
          simp [Value.ownBlock] at hq
          omega
        · rw [h, hwz] at hq
          injection hq with hq
          omega
      have hgb : w10.heap[g]? = wr.heap[g]? := (RR.out.2.1.block g (by omega) (fun e => by simp [Value.ownBlock] at e; omega)).trans (Below.heap_alloc wr _ g hgl)
      have B10 : Below w.heap.size w w10 := (HM.out.bel.trans (bA.mono hs)).grown RR.out.2.1 (by omega) (fun q hq => by simp [Value.ownBlock] at hq; omega)
      have hsz := RR.out.2.1.size
      refine bodyPost_ret (v := .tuple #[.agg #[.int .i64 ra, .int .i64 0, .slice A10 l10 c10], .agg #[.int .i64 rb, .int .i64 1, .slice (some ⟨g, 0, none⟩) n ca], .bool true]) (by simp [results, Try.results52, go_sem, e10, e11, e12, e20, e21, e22]) rfl ?_
      refine ⟨A10, l10, c10, some ⟨g, 0, none⟩, n, ca, rfl, ?_, ?_, fun q hq => by have := hb10 q hq; omega, fun q hq => by simp [Value.ownBlock] at hq; omega, fun q hq hq2 => by have := hb10 q hq; simp [Value.ownBlock] at hq2; omega, B10.trans (d2.below (Nat.le_refl _) B10.size)⟩
      · rw [kcs_len]
        have h1 := RR.out.1
        rw [Nat.zero_add, List.nil_append] at h1
        exact ownsC_at h1 (fun q hq => d2.block q (hb10 q hq).2 (fun z => by have := hb10 q hq; omega))
      · rw [kcs_len]
        exact ownsC_at HM.out.oa (fun q hq => by
          simp [Value.ownBlock] at hq
          subst hq
          rw [d2.block g (by omega) (fun z => by omega), hgb])

set_option maxHeartbeats 1000000 in
set_option maxRecDepth 100000 in
theorem specMpk_no (n p ra rb : Int) (w : World) (h : mkOk n p ra rb = false) :
    Calls Try.prog 52 #[.int .i64 n, .int .i64 p, .int .i64 ra, .int .i64 rb] w (MkRet w 0 0 0 0 [] false) := by
  have FIN := Lib.hid (mk_no w)
  have h' := of_decide_eq_false h
  by_cases h1 : 1 ≤ n ∧ n ≤ 6
  · obtain ⟨m, rfl⟩ := Int.eq_ofNat_of_zero_le (show 0 ≤ n by omega)
    obtain ⟨q, hq, hq1, hq6⟩ := pow_bd m (by omega)
    rw [Int.toNat_natCast, hq] at h'
    have hm0 : (0 : Int) ≤ (m : Int) := by omega
    by_cases h2 : 0 ≤ p ∧ p ≤ (q : Int) - 1
    · by_cases h3 : 0 ≤ ra ∧ ra ≤ 2147483646
      · have h4 : ¬ (0 ≤ rb ∧ rb ≤ 2147483646) := fun k => h' ⟨h1, h2, h3, k⟩
        have H4 := Lib.hid h4
        clear h h' h4
        go_enter Try.func52, Try.ntmps52
        go_wp2_with (first | (go_at_call 92; refine (specIn_t _ _ _ _ (by omega) (by omega)).mono ?_; rintro e w' ⟨rfl, rfl⟩) | (go_at_call 92; refine (specIn_f _ _ _ _ H4.out).mono ?_; rintro e w' ⟨rfl, rfl⟩))
        refine bodyPost_ret (v := .tuple #[.agg #[.int .i64 0, .int .i64 0, .slice none 0 0], .agg #[.int .i64 0, .int .i64 0, .slice none 0 0], .bool false]) (by simp [results, Try.results52, go_sem]) rfl FIN.out
      · have H3 := Lib.hid h3
        clear h h' h3
        go_enter Try.func52, Try.ntmps52
        go_wp2_with (first | (go_at_call 92; refine (specIn_t _ _ _ _ (by omega) (by omega)).mono ?_; rintro e w' ⟨rfl, rfl⟩) | (go_at_call 92; refine (specIn_f _ _ _ _ H3.out).mono ?_; rintro e w' ⟨rfl, rfl⟩))
        refine bodyPost_ret (v := .tuple #[.agg #[.int .i64 0, .int .i64 0, .slice none 0 0], .agg #[.int .i64 0, .int .i64 0, .slice none 0 0], .bool false]) (by simp [results, Try.results52, go_sem]) rfl FIN.out
    · have H2 := Lib.hid h2
      clear h h' h2
      go_enter Try.func52, Try.ntmps52
      go_wp2_with (first | (go_at_call 92; refine (specIn_t _ _ _ _ (by omega) (by omega)).mono ?_; rintro e w' ⟨rfl, rfl⟩) | (go_at_call 92; refine (specIn_f _ _ _ _ H2.out).mono ?_; rintro e w' ⟨rfl, rfl⟩))
      refine bodyPost_ret (v := .tuple #[.agg #[.int .i64 0, .int .i64 0, .slice none 0 0], .agg #[.int .i64 0, .int .i64 0, .slice none 0 0], .bool false]) (by simp [results, Try.results52, go_sem]) rfl FIN.out
  · have H1 := Lib.hid h1
    clear h h' h1
    go_enter Try.func52, Try.ntmps52
    go_wp2_with (first | (go_at_call 92; refine (specIn_t _ _ _ _ (by omega) (by omega)).mono ?_; rintro e w' ⟨rfl, rfl⟩) | (go_at_call 92; refine (specIn_f _ _ _ _ H1.out).mono ?_; rintro e w' ⟨rfl, rfl⟩))
    refine bodyPost_ret (v := .tuple #[.agg #[.int .i64 0, .int .i64 0, .slice none 0 0], .agg #[.int .i64 0, .int .i64 0, .slice none 0 0], .bool false]) (by simp [results, Try.results52, go_sem]) rfl FIN.out
set_option maxHeartbeats 1000000 in
set_option maxRecDepth 100000 in
theorem implMpk_no (n p ra rb : Int) (w : World) (h : mkOk n p ra rb = false) :
    Calls Try.prog 44 #[.int .i64 n, .int .i64 p, .int .i64 ra, .int .i64 rb] w (MkRet w 0 0 0 0 [] false) := by
  have FIN := Lib.hid (mk_no w)
  have h' := of_decide_eq_false h
  by_cases h1 : 1 ≤ n ∧ n ≤ 6
  · obtain ⟨m, rfl⟩ := Int.eq_ofNat_of_zero_le (show 0 ≤ n by omega)
    obtain ⟨q, hq, hq1, hq6⟩ := pow_bd m (by omega)
    rw [Int.toNat_natCast, hq] at h'
    have hm0 : (0 : Int) ≤ (m : Int) := by omega
    by_cases h2 : 0 ≤ p ∧ p ≤ (q : Int) - 1
    · by_cases h3 : 0 ≤ ra ∧ ra ≤ 2147483646
      · have h4 : ¬ (0 ≤ rb ∧ rb ≤ 2147483646) := fun k => h' ⟨h1, h2, h3, k⟩
        have H4 := Lib.hid h4
        clear h h' h4
        go_enter Try.func44, Try.ntmps44
        go_wp2_with (first | (go_at_call 100; refine (implIn_t _ _ _ _ (by omega) (by omega)).mono ?_; rintro e w' ⟨rfl, rfl⟩) | (go_at_call 106; refine (implLeaf_t m p _ (by omega) (decide_eq_true (by rw [hq]; exact h2))).mono ?_; rintro e w' ⟨rfl, rfl⟩) | (go_at_call 100; refine (implIn_f _ _ _ _ H4.out).mono ?_; rintro e w' ⟨rfl, rfl⟩))
        refine bodyPost_ret (v := .tuple #[.agg #[.int .i64 0, .int .i64 0, .slice none 0 0], .agg #[.int .i64 0, .int .i64 0, .slice none 0 0], .bool false]) (by simp [results, Try.results44, go_sem]) rfl FIN.out
      · have H3 := Lib.hid h3
        clear h h' h3
        go_enter Try.func44, Try.ntmps44
        go_wp2_with (first | (go_at_call 100; refine (implIn_t _ _ _ _ (by omega) (by omega)).mono ?_; rintro e w' ⟨rfl, rfl⟩) | (go_at_call 106; refine (implLeaf_t m p _ (by omega) (decide_eq_true (by rw [hq]; exact h2))).mono ?_; rintro e w' ⟨rfl, rfl⟩) | (go_at_call 100; refine (implIn_f _ _ _ _ H3.out).mono ?_; rintro e w' ⟨rfl, rfl⟩))
        refine bodyPost_ret (v := .tuple #[.agg #[.int .i64 0, .int .i64 0, .slice none 0 0], .agg #[.int .i64 0, .int .i64 0, .slice none 0 0], .bool false]) (by simp [results, Try.results44, go_sem]) rfl FIN.out
    · have H2 := Lib.hid h2
      clear h h' h2
      go_enter Try.func44, Try.ntmps44
      go_wp2_with (first | (go_at_call 100; refine (implIn_t _ _ _ _ (by omega) (by omega)).mono ?_; rintro e w' ⟨rfl, rfl⟩) | (go_at_call 106; refine (implLeaf_f m p _ (by omega) (decide_eq_false (by rw [hq]; exact H2.out))).mono ?_; rintro e w' ⟨rfl, rfl⟩))
      refine bodyPost_ret (v := .tuple #[.agg #[.int .i64 0, .int .i64 0, .slice none 0 0], .agg #[.int .i64 0, .int .i64 0, .slice none 0 0], .bool false]) (by simp [results, Try.results44, go_sem]) rfl FIN.out
  · have H1 := Lib.hid h1
    clear h h' h1
    go_enter Try.func44, Try.ntmps44
    go_wp2_with (first | (go_at_call 100; refine (implIn_t _ _ _ _ (by omega) (by omega)).mono ?_; rintro e w' ⟨rfl, rfl⟩) | (go_at_call 100; refine (implIn_f _ _ _ _ H1.out).mono ?_; rintro e w' ⟨rfl, rfl⟩))
    refine bodyPost_ret (v := .tuple #[.agg #[.int .i64 0, .int .i64 0, .slice none 0 0], .agg #[.int .i64 0, .int .i64 0, .slice none 0 0], .bool false]) (by simp [results, Try.results44, go_sem]) rfl FIN.out
theorem mpk_both (n p ra rb : Int) : ∃ r1 b1 r2 b2 cs ok, Hid (∀ w, Calls Try.prog 52 #[.int .i64 n, .int .i64 p, .int .i64 ra, .int .i64 rb] w (MkRet w r1 b1 r2 b2 cs ok)) ∧ Hid (∀ w, Calls Try.prog 44 #[.int .i64 n, .int .i64 p, .int .i64 ra, .int .i64 rb] w (MkRet w r1 b1 r2 b2 cs ok)) ∧ cs.length ≤ 6 := by
  by_cases h : mkOk n p ra rb = true
  · have h' := of_decide_eq_true h
    obtain ⟨m, rfl⟩ := Int.eq_ofNat_of_zero_le (show 0 ≤ n by omega)
    rw [Int.toNat_natCast] at h'
    refine ⟨ra, 0, rb, 1, kcs ra rb p m m, true, Lib.hid fun w => specMpk_c m p ra rb w (by omega) (by omega) (by omega) (by omega) (by omega) (by omega) (by omega) (by omega), Lib.hid fun w => (implMpk_c m p ra rb w (by omega) (by omega) (by omega) (by omega) (by omega) (by omega) (by omega) (by omega)).mono fun e w' h => h.ret (kcs_len _ _ _ _ _), by rw [kcs_len]; omega⟩
  · have h' : mkOk n p ra rb = false := by simpa using h
    exact ⟨0, 0, 0, 0, [], false, Lib.hid fun w => specMpk_no n p ra rb w h', Lib.hid fun w => implMpk_no n p ra rb w h', by simp⟩
end Go.Proofs.Ytceogegjghmonaa
