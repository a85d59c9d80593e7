/- The law on NetOf, walked out of the contracts of what it calls. -/
import Derived.Test.YtbacajbfedgcjaaWater2
namespace Go.Proofs.Ytbacajbfedgcjaa
open Go.RowKit
set_option linter.unusedVariables false

set_option maxHeartbeats 2000000 in
theorem FnExactNetOf_calls (aW0 : Int) (aW1 : Int) (aW2 : Int) (aW3 : Int) (aW4 : Int) (w : World)
    (_waW0 : (Lit.int .i64 aW0).wf = true) (_waW1 : (Lit.int .i64 aW1).wf = true) (_waW2 : (Lit.int .i64 aW2).wf = true) (_waW3 : (Lit.int .i64 aW3).wf = true) (_waW4 : (Lit.int .i64 aW4).wf = true) :
    Calls Try.prog 4 #[.agg #[.int .i64 aW0, .int .i64 aW1, .int .i64 aW2, .int .i64 aW3, .int .i64 aW4]] w fun e w' => e = .returned (.bool true) ∧ Below w.heap.size w w' := by
  go_enter Try.func4, Try.ntmps4
  go_wp2_with fail
  refine (toWater_calls _ _ _ _ _ _).mono ?_
  rintro e w1 ⟨rfl, b1⟩
  have c1 := b1
  have d1 := bbox1 b1
  have s1 := b1.size
  clear b1
  obtain ⟨k1, f1⟩ := bcell c1
  go_wp2_with fail
  refine (specNetOf_calls _ _ _ _ _ _ ).mono ?_
  rintro e w2 ⟨rfl, b2⟩
  have c2 := bnext c1 b2 (Nat.le_refl _)
  have d2 := bbox1 c2
  have s2 := b2.size
  clear d1
  clear c1
  clear b2
  obtain ⟨k2, f2⟩ := bcell c2
  clear k1 f1
  go_wp2_with fail
  refine (toWater_calls _ _ _ _ _ _).mono ?_
  rintro e w3 ⟨rfl, b3⟩
  have c3 := bnext c2 b3 (Nat.le_refl _)
  have d3 := bbox1 c3
  have s3 := b3.size
  clear d2
  clear c2
  clear b3
  obtain ⟨k3, f3⟩ := bcell c3
  clear k2 f2
  go_wp2_with fail
  refine (NetOf_calls _ _ _ _ _ _ ).mono ?_
  rintro e w4 ⟨rfl, b4⟩
  have c4 := bnext c3 b4 (Nat.le_refl _)
  have d4 := bbox1 c4
  have s4 := b4.size
  clear d3
  clear c3
  clear b4
  obtain ⟨k4, f4⟩ := bcell c4
  clear k3 f3
  go_wp2_with fail
  go_ret
  exact ⟨rfl, d4⟩
end Go.Proofs.Ytbacajbfedgcjaa
