/- The law on AlarmOf, walked out of the contracts of what it calls. -/
import Derived.Test.YtmbonkklfnhkdaaAlarmOf
namespace Go.Proofs.Ytmbonkklfnhkdaa
open Go.RowKit
set_option linter.unusedVariables false

set_option maxHeartbeats 2000000 in
theorem FnExactAlarmOf_calls (aaList : Option Addr) (naList caList : Nat) (xaList : List (Int)) (aLevel : Int) (w : World)
    (raList : RdInt64 w aaList naList xaList) (_laList : naList ≤ caList) (_maList : caList ≤ maxLen) (_oaList : ∀ z ∈ xaList, OkInt64 z) (_waLevel : (Lit.int .i64 aLevel).wf = true) :
    Calls Try.prog 5 #[.slice aaList naList caList, .int .i64 aLevel] w fun e w' => e = .returned (.bool true) ∧ Below w.heap.size w w' := by
  by_cases haList : naList ≤ 1048576
  case neg =>
    have haList' : (1048576 : Int) < naList := by omega
    have _zaList := _maList
    unfold maxLen at _zaList
    go_enter Try.func5, Try.ntmps5
    go_wp2
    go_ret
    exact ⟨rfl, (Below.refl _ _)⟩
  go_enter Try.func5, Try.ntmps5
  go_wp2_with fail
  refine (toInt64S_calls _ _ _ _ _ raList haList).mono ?_
  rintro e w1 ⟨A1, rfl, o1, b1⟩
  have c1 := b1
  have d1 := b1
  have s1 := b1.size
  clear b1
  go_wp2_with fail
  refine (specAlarmOf_calls _ _ _ _ _ _ (o1.rd len_cInt64) haList).mono ?_
  rintro e w2 ⟨rfl, b2⟩
  clear o1
  have c2 := bnext c1 b2 (Nat.le_refl _)
  have d2 := c2
  have s2 := b2.size
  clear d1
  clear c1
  clear b2
  go_wp2_with fail
  refine (toInt64S_calls _ _ _ _ _ (raList.below d2) haList).mono ?_
  rintro e w3 ⟨A3, rfl, o3, b3⟩
  have c3 := bnext c2 b3 (Nat.le_refl _)
  have d3 := c3
  have s3 := b3.size
  clear d2
  clear c2
  clear b3
  go_wp2_with fail
  refine (AlarmOf_calls _ _ _ _ _ _ (o3.rd len_cInt64) haList).mono ?_
  rintro e w4 ⟨rfl, b4⟩
  have c4 := bnext c3 b4 (Nat.le_refl _)
  have d4 := c4
  have s4 := b4.size
  replace o3 := o3.below b4
  clear d3
  clear c3
  clear b4
  go_wp2_with fail
  refine (toInt64S_calls _ _ _ _ _ (raList.below d4) haList).mono ?_
  rintro e w5 ⟨A5, rfl, o5, b5⟩
  have c5 := bnext c4 b5 (Nat.le_refl _)
  have d5 := c5
  have s5 := b5.size
  replace o3 := o3.below b5
  clear d4
  clear c4
  clear b5
  go_wp2_with fail
  refine (eqInt64S_calls _ _ _ _ _ _ _ _ _ (o3.rd len_cInt64) (o5.rd len_cInt64) haList haList).mono ?_
  rintro e w6 ⟨rfl, b6⟩
  clear o5
  have c6 := bnext c5 b6 (Nat.le_refl _)
  have d6 := c6
  have s6 := b6.size
  replace o3 := o3.below b6
  clear d5
  clear c5
  clear b6
  go_wp2_with fail
  go_ret
  exact ⟨rfl, d6⟩
end Go.Proofs.Ytmbonkklfnhkdaa
