import Derived.Test.YtppkljhnmifilaaTySwitch
namespace Go.Proofs.Ytppkljhnmifilaa
open Go.RowKit
set_option linter.unusedVariables false

def swB (on off : Int) : Bool := lvB on && lvB off && decide (off < on)

theorem ValidSwitch_calls (on off : Int) (w : World) :
    Calls Try.prog 13 #[.agg #[.int .i64 on, .int .i64 off]] w fun e w' => e = .returned (.bool (swB on off)) ∧ Below w.heap.size w w' := by
  go_enter Try.func13, Try.ntmps13
  go_wp2_with (go_at_call 41; refine (ValidLevel_calls _ _).mono ?_; rintro e w' ⟨rfl, rfl⟩)
  all_goals (go_ret; exact ⟨by simp [swB, *], by go_grown⟩)
theorem l14Ok_calls (on off : Int) (w : World) :
    Calls Try.prog 40 #[.agg #[.int .i64 on, .int .i64 off]] w fun e w' => e = .returned (.bool (swB on off)) ∧ Below w.heap.size w w' := by
  go_enter Try.func40, Try.ntmps40
  go_wp2_with (go_at_call 42; refine (l02Level_calls _ _).mono ?_; rintro e w' ⟨rfl, rfl⟩)
  all_goals (go_ret; exact ⟨by simp [swB, *], by go_grown⟩)
theorem specValidSwitch_calls (on off : Int) (w : World) :
    Calls Try.prog 11 #[.agg #[.int .i64 on, .int .i64 off]] w fun e w' => e = .returned (.bool (swB on off)) ∧ Below w.heap.size w w' := by
  go_enter Try.func11, Try.ntmps11
  go_wp2_with (go_at_call 40; refine (l14Ok_calls _ _ _).mono ?_; rintro e w1 ⟨rfl, hb1⟩)
  go_ret
  exact ⟨rfl, (Below.refl _ _).alloc (Nat.le_refl _) _ |>.trans (hb1.mono (by simp))⟩
theorem FnExactValidSwitch_calls (on off : Int) (w : World) (_ : (Lit.int .i64 on).wf = true) (_ : (Lit.int .i64 off).wf = true) :
    Calls Try.prog 3 #[.agg #[.int .i64 on, .int .i64 off]] w fun e w' => e = .returned (.bool true) ∧ Below w.heap.size w w' := by
  go_enter Try.func3, Try.ntmps3
  go_wp2_with fail
  refine (toSwitch_calls _ _ _).mono ?_
  rintro e w1 ⟨rfl, b1⟩
  go_wp2_with fail
  refine (specValidSwitch_calls _ _ _).mono ?_
  rintro e w2 ⟨rfl, b2⟩
  have c2 := bnext b1 b2 (Nat.le_refl _)
  obtain ⟨k2, f2⟩ := bcell c2
  clear b1 b2
  go_wp2_with fail
  refine (toSwitch_calls _ _ _).mono ?_
  rintro e w3 ⟨rfl, b3⟩
  go_wp2_with fail
  refine (ValidSwitch_calls _ _ _).mono ?_
  rintro e w4 ⟨rfl, b4⟩
  have c4 := bnext (bnext c2 b3 (Nat.le_refl _)) b4 (Nat.le_refl _)
  clear b3 b4
  go_wp2
  go_ret
  exact ⟨rfl, ((Below.refl _ _).alloc (Nat.le_refl _) _).trans (c4.mono (by simp))⟩
end Go.Proofs.Ytppkljhnmifilaa
