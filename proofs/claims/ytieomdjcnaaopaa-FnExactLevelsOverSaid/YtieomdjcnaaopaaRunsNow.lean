import Derived.Test.YtieomdjcnaaopaaSwitch
namespace Go.Proofs.Ytieomdjcnaaopaa
open Go.RowKit
set_option linter.unusedVariables false

/-- Does a pump run: at a level, having run or not. -/
def runB (on off level : Int) (running : Bool) : Bool := if running then decide (off < level) else decide (on ≤ level)

theorem runs_calls (on off level : Int) (r : Bool) (w : World) :
    Calls Try.prog 141 #[.agg #[.int .i64 on, .int .i64 off], .int .i64 level, .bool r] w fun e w' => e = .returned (.bool (runB on off level r)) ∧ Below w.heap.size w w' := by
  cases r
  all_goals
    go_enter Try.func141, Try.ntmps141
    go_wp2
    go_ret
    exact ⟨rfl, by go_grown⟩
theorem l14Runs_calls (on off level : Int) (r : Bool) (w : World) :
    Calls Try.prog 140 #[.agg #[.int .i64 on, .int .i64 off], .int .i64 level, .bool r] w fun e w' => e = .returned (.bool (runB on off level r)) ∧ Below w.heap.size w w' := by
  cases r
  all_goals
    go_enter Try.func140, Try.ntmps140
    go_wp2
    go_ret
    exact ⟨rfl, by go_grown⟩
/-- What RunsNow answers. -/
def runsNow (on off level : Int) (r : Bool) : Bool × Int := if swB on off then (if lvB level then (runB on off level r, 0) else (false, 2)) else (false, 1)
end Go.Proofs.Ytieomdjcnaaopaa
