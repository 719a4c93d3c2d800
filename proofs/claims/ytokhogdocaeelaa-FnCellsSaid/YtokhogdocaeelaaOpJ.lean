/- OpenCell of both sides: the branches joined. -/
import Derived.Test.YtokhogdocaeelaaOpI
import Derived.Test.YtokhogdocaeelaaSealJ
namespace Go.Proofs.Ytokhogdocaeelaa
set_option linter.unusedVariables false
open Go.RowKit

theorem implOpenCell_c (k c : Int) (v : Value) (cell : List UInt8) (ok : Bool) (w : World) (h : Rd RB w v cell) (hok : Hid (openOk k c cell = ok)) :
    Calls Try.prog 45 #[.int .i64 k, .int .i64 c, v] w fun e w' => ∃ A l cc, e = .returned (.tuple #[.agg #[.int .i64 (opnM k c cell), .slice A l cc], .bool ok]) ∧ Fresh (Own 5 FB) w w' (.slice A l cc) (opnB k c cell) := by
  cases hh : hdrOk k c cell with
  | true => exact implOpenT_c k c v cell ok w h hh hok
  | false =>
    have hno : openOk k c cell = false := by rw [openOk_eq, hh]; rfl
    have hk2 : ok = false := by rw [← hok.out, hno]
    subst hk2
    rw [(opn_no hno).1, (opn_no hno).2]
    refine (implOpenH_c k c v cell w h hh).mono ?_
    rintro e w' ⟨rfl, b⟩
    exact ⟨_, _, _, rfl, fresh_nilB _ _ b⟩
theorem specOpenCell_c (k c : Int) (v : Value) (cell : List UInt8) (ok : Bool) (w : World) (h : Rd RB w v cell) (hok : Hid (openOk k c cell = ok)) :
    Calls Try.prog 44 #[.int .i64 k, .int .i64 c, v] w fun e w' => ∃ A l cc, e = .returned (.tuple #[.agg #[.int .i64 (opnM k c cell), .slice A l cc], .bool ok]) ∧ Fresh (Own 5 FB) w w' (.slice A l cc) (opnB k c cell) := by
  cases hh : hdrOk k c cell with
  | true => exact specOpenT_c k c v cell ok w h hh hok
  | false =>
    have hno : openOk k c cell = false := by rw [openOk_eq, hh]; rfl
    have hk2 : ok = false := by rw [← hok.out, hno]
    subst hk2
    rw [(opn_no hno).1, (opn_no hno).2]
    refine (specOpenH_c k c v cell w h hh).mono ?_
    rintro e w' ⟨rfl, b⟩
    exact ⟨_, _, _, rfl, fresh_nilB _ _ b⟩
end Go.Proofs.Ytokhogdocaeelaa
