import Derived.Test.YtppkljhnmifilaaSwitch
namespace Go.Proofs.Ytppkljhnmifilaa
open Go.RowKit
set_option linter.unusedVariables false

/-- Does a pump run: at a level, having run or not. -/
def runB (on off level : Int) (running : Bool) : Bool := if running then decide (off < level) else decide (on ≤ level)

theorem runs_calls (on off level : Int) (r : Bool) (w : World) :
    Calls Try.prog 44 #[.agg #[.int .i64 on, .int .i64 off], .int .i64 level, .bool r] w fun e w' => e = .returned (.bool (runB on off level r)) ∧ Below w.heap.size w w' := by
  cases r
  all_goals
    go_enter Try.func44, Try.ntmps44
    go_wp2
    go_ret
    exact ⟨rfl, by go_grown⟩
theorem l14Runs_calls (on off level : Int) (r : Bool) (w : World) :
    Calls Try.prog 43 #[.agg #[.int .i64 on, .int .i64 off], .int .i64 level, .bool r] w fun e w' => e = .returned (.bool (runB on off level r)) ∧ Below w.heap.size w w' := by
  cases r
  all_goals
    go_enter Try.func43, Try.ntmps43
    go_wp2
    go_ret
    exact ⟨rfl, by go_grown⟩
/-- What RunsNow answers. -/
def runsNow (on off level : Int) (r : Bool) : Bool × Int := if swB on off then (if lvB level then (runB on off level r, 0) else (false, 2)) else (false, 1)
theorem specRunsNow_calls (on off level : Int) (r : Bool) (w : World) :
    Calls Try.prog 14 #[.agg #[.int .i64 on, .int .i64 off], .int .i64 level, .bool r] w fun e w' =>
      e = .returned (.tuple #[.bool (runsNow on off level r).1, .int .i64 (runsNow on off level r).2]) ∧ Below w.heap.size w w' := by
  go_enter Try.func14, Try.ntmps14
  go_wp2_with fail
  refine (l14Ok_calls _ _ _).mono ?_
  rintro e w1 ⟨rfl, b1⟩
  have c1 := bbox1 b1
  obtain ⟨k1, f1⟩ := bcell b1
  clear b1
  cases hs : swB on off
  · have Hs := hd hs
    go_wp2_with fail
    go_ret2
    exact ⟨by simp [runsNow, Hs.out], c1⟩
  · cases hv : lvB level
    · go_wp2_with (go_at_call 42; refine (l02Level_calls _ _).mono ?_; rintro e w' ⟨rfl, rfl⟩)
      go_ret2
      exact ⟨by simp [runsNow, hs, hv], c1⟩
    · go_wp2_with (go_at_call 42; refine (l02Level_calls _ _).mono ?_; rintro e w' ⟨rfl, rfl⟩)
      refine (l14Runs_calls _ _ _ _ _).mono ?_
      rintro e w2 ⟨rfl, b2⟩
      go_wp2_with fail
      go_ret2
      exact ⟨by simp [runsNow, hs, hv], bnext c1 b2 (Nat.le_refl _)⟩
theorem RunsNow_calls (on off level : Int) (r : Bool) (w : World) :
    Calls Try.prog 15 #[.agg #[.int .i64 on, .int .i64 off], .int .i64 level, .bool r] w fun e w' =>
      e = .returned (.tuple #[.bool (runsNow on off level r).1, .int .i64 (runsNow on off level r).2]) ∧ Below w.heap.size w w' := by
  go_enter Try.func15, Try.ntmps15
  go_wp2_with fail
  refine (ValidSwitch_calls _ _ _).mono ?_
  rintro e w1 ⟨rfl, b1⟩
  have c1 := bbox1 b1
  obtain ⟨k1, f1⟩ := bcell b1
  clear b1
  cases hs : swB on off
  · have Hs := hd hs
    go_wp2_with fail
    go_ret2
    exact ⟨by simp [runsNow, Hs.out], c1⟩
  · cases hv : lvB level
    · go_wp2_with (go_at_call 41; refine (ValidLevel_calls _ _).mono ?_; rintro e w' ⟨rfl, rfl⟩)
      go_ret2
      exact ⟨by simp [runsNow, hs, hv], c1⟩
    · go_wp2_with (go_at_call 41; refine (ValidLevel_calls _ _).mono ?_; rintro e w' ⟨rfl, rfl⟩)
      refine (runs_calls _ _ _ _ _).mono ?_
      rintro e w2 ⟨rfl, b2⟩
      go_wp2_with fail
      go_ret2
      exact ⟨by simp [runsNow, hs, hv], bnext c1 b2 (Nat.le_refl _)⟩
end Go.Proofs.Ytppkljhnmifilaa
