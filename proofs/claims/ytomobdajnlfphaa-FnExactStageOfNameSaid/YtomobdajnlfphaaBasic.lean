/- Contracts of the smallest functions: range tests, least and greatest. No conditions. -/
import Derived.Test.YtomobdajnlfphaaChecked
import Derived.Test.YtomobdajnlfphaaAux
namespace Go.Proofs.Ytomobdajnlfphaa
open Go.RowKit
set_option linter.unusedVariables false

/-- n lies between lo and hi. -/
def inB (n lo hi : Int) : Bool := decide (lo ≤ n) && decide (n ≤ hi)
theorem inB_iff {n lo hi : Int} : inB n lo hi = true ↔ lo ≤ n ∧ n ≤ hi := by simp [inB]
theorem inB_not {n lo hi : Int} : inB n lo hi = false ↔ n < lo ∨ hi < n := by simp [inB]; omega
/-- n is a level. -/
def lvB (n : Int) : Bool := inB n (-2000) 2000
theorem lvB_iff {n : Int} : lvB n = true ↔ -2000 ≤ n ∧ n ≤ 2000 := inB_iff

theorem in_calls (n lo hi : Int) (w : World) :
    Calls Try.prog 22 #[.int .i64 n, .int .i64 lo, .int .i64 hi] w fun e w' => e = .returned (.bool (inB n lo hi)) ∧ w = w' := by
  go_enter Try.func22, Try.ntmps22
  go_wp2
  all_goals (go_ret; exact ⟨by simp [inB]; try omega, rfl⟩)
end Go.Proofs.Ytomobdajnlfphaa
