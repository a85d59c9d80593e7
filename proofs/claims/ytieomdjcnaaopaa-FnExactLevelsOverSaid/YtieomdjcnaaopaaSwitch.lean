import Derived.Test.YtieomdjcnaaopaaTySwitch
namespace Go.Proofs.Ytieomdjcnaaopaa
open Go.RowKit
set_option linter.unusedVariables false

def swB (on off : Int) : Bool := lvB on && lvB off && decide (off < on)

theorem ValidSwitch_calls (on off : Int) (w : World) :
    Calls Try.prog 123 #[.agg #[.int .i64 on, .int .i64 off]] w fun e w' => e = .returned (.bool (swB on off)) ∧ Below w.heap.size w w' := by
  go_enter Try.func123, Try.ntmps123
  go_wp2_with (go_at_call 80; refine (ValidLevel_calls _ _).mono ?_; rintro e w' ⟨rfl, rfl⟩)
  all_goals (go_ret; exact ⟨by simp [swB, *], by go_grown⟩)
theorem l14Ok_calls (on off : Int) (w : World) :
    Calls Try.prog 74 #[.agg #[.int .i64 on, .int .i64 off]] w fun e w' => e = .returned (.bool (swB on off)) ∧ Below w.heap.size w w' := by
  go_enter Try.func74, Try.ntmps74
  go_wp2_with (go_at_call 77; refine (l02Level_calls _ _).mono ?_; rintro e w' ⟨rfl, rfl⟩)
  all_goals (go_ret; exact ⟨by simp [swB, *], by go_grown⟩)
end Go.Proofs.Ytieomdjcnaaopaa
