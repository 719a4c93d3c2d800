/- FnExactIsValidMailbox, for every argument, no condition: the program's IsValidMailbox returns what the reference's returns. -/
import Derived.Test.YtfidnnfffhhchaaTo
namespace Go.Proofs.Ytfidnnfffhhchaa.fnExactIsValidMailbox
set_option linter.unusedVariables false
open Go.RowKit Go.ChangeShapes Go.WideShapes Go.ChangeAt

theorem box3 (w w' : World) (u0 u1 u2 : Value) (E : TypeId) (b : Below (w.alloc (.cells #[u0, u1, u2] E)).heap.size (w.alloc (.cells #[u0, u1, u2] E)) w') :
    w'.cell? ⟨w.heap.size, 0, none⟩ = some u0 ∧ w'.cell? ⟨w.heap.size, 1, none⟩ = some u1 ∧ w'.cell? ⟨w.heap.size, 2, none⟩ = some u2 := by
  refine ⟨?_, ?_, ?_⟩ <;> rw [b.cell (by simp), World.cell?_alloc_at _ _ _ _ rfl] <;> rfl

set_option maxHeartbeats 1000000 in
theorem walk (w : World) (k s r : Int) :
    Calls Try.prog 4 #[.agg #[.int .i64 k, .int .i64 s, .int .i64 r]] w fun e w' => e = .returned (.bool true) ∧ Below w.heap.size w w' := by
  go_enter Try.func4, Try.ntmps4
  go_wp2_with fail
  refine (toMailbox_c _ _ _ _).mono ?_
  rintro e w1 ⟨rfl, T⟩
  obtain ⟨c0, c1, c2⟩ := box3 _ _ _ _ _ _ T
  go_wp2_with fail
  refine (specIsValidMailbox_c _ _ _ _).mono ?_
  rintro e w2 ⟨rfl, b⟩
  replace T := T.trans (b.mono T.size)
  clear b c0 c1 c2
  obtain ⟨c0, c1, c2⟩ := box3 _ _ _ _ _ _ T
  go_wp2_with fail
  refine (toMailbox_c _ _ _ _).mono ?_
  rintro e w3 ⟨rfl, b⟩
  replace T := T.trans (b.mono T.size)
  clear b c0 c1 c2
  go_wp2_with fail
  refine (implIsValidMailbox_c _ _ _ _).mono ?_
  rintro e w4 ⟨rfl, b⟩
  replace T := T.trans (b.mono T.size)
  clear b
  go_wp2
  go_ret
  exact ⟨rfl, (below_alloc w _).trans (T.mono (by simp))⟩

set_option maxRecDepth 100000 in
theorem lifted (os : Os) (started : os.Started) (H : Type) (enc : TypeId × Value → H) :
    ReturnsInHanded {} Try.checked os 4 .any (Rows.fnExactIsValidMailboxSpec.pre6 enc Try.prog Try.f4 Rows.fnExactIsValidMailboxRow.domain false) (Rows.fnExactIsValidMailboxSpec.post enc Try.prog Try.f4 false true false false) := by
  refine returnsInHanded_of_change (C := Try.checked) own_ started (by kernel_rfl) Try.func4
    (ChangeSpec.witness6 (enc := enc) (C := Try.checked) false ⟨#[], #[.agg #[.int .i64 0, .int .i64 0, .int .i64 0]], []⟩ 8 (by kernel_rfl) (by kernel_rfl) (by kernel_rfl) (by kernel_rfl)) ?_
  intro W base args ds gs before hval0 hW hcnd _
  have hval : ∀ (j : Nat) t v, Try.f4.params[j]? = some t → args[j]? = some v → Value.okWide Try.prog W .any base t v := hval0
  have hW' := hW
  obtain ⟨p, q, hA0, hV, rfl, hfz, hnd⟩ := hW
  have hA : DataW.TrodAll enc Try.prog W 0 (fun _ => true) true Try.f4.params.toList args.toList ds p := hA0
  rw [Try.params4] at hA hval
  obtain ⟨v0, vs0, d0, ds0, p0, q0, hargs, rfl, rfl, h0, r0⟩ := trodAll_cons hA
  obtain ⟨rfl, rfl, rfl⟩ := trodAll_nil r0
  obtain rfl : args = #[v0] := by cases args; simp_all
  obtain ⟨rfl, rfl⟩ := trodVars_none hV
  have k0 := h0
  have lt0 : ∀ x ∈ p0, x.block < W.heap.size := by obtain ⟨m, hm⟩ := k0; exact DataW.trod_lt m _ _ _ hm
  obtain ⟨m0, n0, o0, rfl⟩ := open_int3 Try.underlying25 (by kernel_rfl) (by kernel_rfl) Try.underlying3 Try.underlying3 Try.underlying3 (hval 0 25 v0 rfl rfl) h0
  clear hA0 hval0
  refine (walk W m0 n0 o0).mono fun e W' ⟨he, bel⟩ => ?_
  subst he
  exact ⟨_, rfl, _, _, _, [], _, [], hW', trodAll_mk1 (shut_bool Try.underlying4 _), (trodAll_cons_mk (Below.trod laid_ (by kernel_rfl) (of_decide_eq_true (by kernel_rfl)) k0 bel lt0) trodAll_mk0), rfl, bel.frame _, fun h => by cases h⟩

theorem over : Rows.fnExactIsValidMailboxRow.holds Try.pinned (OpenSpec.ofChange Rows.fnExactIsValidMailboxSpec) :=
  OpenClaim.holds_of_wide 4 Try.f4 rfl rfl rfl rfl rfl rfl rfl ⟨rfl, rfl, rfl, rfl, rfl⟩ rfl rfl rfl rfl rfl (by kernel_rfl) Try.func4 (by kernel_rfl)
    (of_decide_eq_true (by kernel_rfl)) (by unfold Func.isWrapper; first | (rw [if_pos (by decide +kernel)]; kernel_rfl) | (rw [if_neg (by decide +kernel)]; exact ⟨rfl, rfl⟩))
    (fun os started H enc _ => lifted os started H enc)

theorem proved : Rows.FnExactIsValidMailboxSaid := over
end Go.Proofs.Ytfidnnfffhhchaa.fnExactIsValidMailbox
