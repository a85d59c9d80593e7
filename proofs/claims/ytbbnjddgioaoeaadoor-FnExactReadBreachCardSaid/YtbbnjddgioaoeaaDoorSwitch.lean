import Derived.Test.YtbbnjddgioaoeaaDoorTySwitch
namespace Go.Proofs.YtbbnjddgioaoeaaDoor
open Go.RowKit
set_option linter.unusedVariables false

def swB (on off : Int) : Bool := lvB on && lvB off && decide (off < on)

theorem ValidSwitch_calls (on off : Int) (w : World) :
    Calls Tryd.prog 36 #[.agg #[.int .i64 on, .int .i64 off]] w fun e w' => e = .returned (.bool (swB on off)) ∧ Below w.heap.size w w' := by
  go_enter Tryd.func36, Tryd.ntmps36
  go_wp2_with (go_at_call 45; refine (ValidLevel_calls _ _).mono ?_; rintro e w' ⟨rfl, rfl⟩)
  all_goals (go_ret; exact ⟨by simp [swB, *], by go_grown⟩)
theorem l14Ok_calls (on off : Int) (w : World) :
    Calls Tryd.prog 34 #[.agg #[.int .i64 on, .int .i64 off]] w fun e w' => e = .returned (.bool (swB on off)) ∧ Below w.heap.size w w' := by
  go_enter Tryd.func34, Tryd.ntmps34
  go_wp2_with (go_at_call 54; refine (l02Level_calls _ _).mono ?_; rintro e w' ⟨rfl, rfl⟩)
  all_goals (go_ret; exact ⟨by simp [swB, *], by go_grown⟩)
end Go.Proofs.YtbbnjddgioaoeaaDoor
