/- The law on WarningTime, walked out of the contracts of what it calls. -/
import Derived.Test.YtmbonkklfnhkdaaWarn
namespace Go.Proofs.Ytmbonkklfnhkdaa
open Go.RowKit
set_option linter.unusedVariables false

set_option maxHeartbeats 2000000 in
theorem FnExactWarningTime_calls (aaList : Option Addr) (naList caList : Nat) (xaList : List (Int)) (aaLevels : Option Addr) (naLevels caLevels : Nat) (xaLevels : List (Int)) (aStage : Int) (w : World)
    (raList : RdInt64 w aaList naList xaList) (_laList : naList ≤ caList) (_maList : caList ≤ maxLen) (_oaList : ∀ z ∈ xaList, OkInt64 z) (raLevels : RdInt64 w aaLevels naLevels xaLevels) (_laLevels : naLevels ≤ caLevels) (_maLevels : caLevels ≤ maxLen) (_oaLevels : ∀ z ∈ xaLevels, OkInt64 z) (_waStage : (Lit.int .i64 aStage).wf = true) :
    Calls Try.prog 8 #[.slice aaList naList caList, .slice aaLevels naLevels caLevels, .int .i64 aStage] w fun e w' => e = .returned (.bool true) ∧ Below w.heap.size w w' := by
  by_cases haList : naList ≤ 1048576
  case neg =>
    have haList' : (1048576 : Int) < naList := by omega
    have _zaList := _maList
    unfold maxLen at _zaList
    go_enter Try.func8, Try.ntmps8
    go_wp2
    go_ret
    exact ⟨rfl, (Below.refl _ _)⟩
  by_cases haLevels : naLevels ≤ 1048576
  case neg =>
    have haLevels' : (1048576 : Int) < naLevels := by omega
    have _zaLevels := _maLevels
    unfold maxLen at _zaLevels
    go_enter Try.func8, Try.ntmps8
    go_wp2
    go_ret
    exact ⟨rfl, (Below.refl _ _)⟩
  go_enter Try.func8, Try.ntmps8
  go_wp2_with fail
  refine (toInt64S_calls _ _ _ _ _ raList haList).mono ?_
  rintro e w1 ⟨A1, rfl, o1, b1⟩
  have c1 := b1
  have d1 := b1
  have s1 := b1.size
  clear b1
  go_wp2_with fail
  refine (toInt64S_calls _ _ _ _ _ (raLevels.below d1) haLevels).mono ?_
  rintro e w2 ⟨A2, rfl, o2, b2⟩
  have c2 := bnext c1 b2 (Nat.le_refl _)
  have d2 := c2
  have s2 := b2.size
  replace o1 := o1.below b2
  clear d1
  clear c1
  clear b2
  go_wp2_with fail
  refine (specWarningTime_calls _ _ _ _ _ _ _ _ _ _ (o1.rd len_cInt64) haList (o2.rd len_cInt64) haLevels).mono ?_
  rintro e w3 ⟨rfl, b3⟩
  clear o1
  clear o2
  have c3 := bnext c2 b3 (Nat.le_refl _)
  have d3 := c3
  have s3 := b3.size
  clear d2
  clear c2
  clear b3
  go_wp2_with fail
  refine (toInt64S_calls _ _ _ _ _ (raList.below d3) haList).mono ?_
  rintro e w4 ⟨A4, rfl, o4, b4⟩
  have c4 := bnext c3 b4 (Nat.le_refl _)
  have d4 := c4
  have s4 := b4.size
  clear d3
  clear c3
  clear b4
  go_wp2_with fail
  refine (toInt64S_calls _ _ _ _ _ (raLevels.below d4) haLevels).mono ?_
  rintro e w5 ⟨A5, rfl, o5, b5⟩
  have c5 := bnext c4 b5 (Nat.le_refl _)
  have d5 := c5
  have s5 := b5.size
  replace o4 := o4.below b5
  clear d4
  clear c4
  clear b5
  go_wp2_with fail
  refine (WarningTime_calls _ _ _ _ _ _ _ _ _ _ (o4.rd len_cInt64) haList (o5.rd len_cInt64) haLevels).mono ?_
  rintro e w6 ⟨rfl, b6⟩
  have c6 := bnext c5 b6 (Nat.le_refl _)
  have d6 := c6
  have s6 := b6.size
  replace o4 := o4.below b6
  replace o5 := o5.below b6
  clear d5
  clear c5
  clear b6
  go_wp2_with fail
  refine (toInt64S_calls _ _ _ _ _ (raList.below d6) haList).mono ?_
  rintro e w7 ⟨A7, rfl, o7, b7⟩
  have c7 := bnext c6 b7 (Nat.le_refl _)
  have d7 := c7
  have s7 := b7.size
  replace o4 := o4.below b7
  replace o5 := o5.below b7
  clear d6
  clear c6
  clear b7
  go_wp2_with fail
  refine (eqInt64S_calls _ _ _ _ _ _ _ _ _ (o4.rd len_cInt64) (o7.rd len_cInt64) haList haList).mono ?_
  rintro e w8 ⟨rfl, b8⟩
  clear o7
  have c8 := bnext c7 b8 (Nat.le_refl _)
  have d8 := c8
  have s8 := b8.size
  replace o4 := o4.below b8
  replace o5 := o5.below b8
  clear d7
  clear c7
  clear b8
  go_wp2_with fail
  refine (toInt64S_calls _ _ _ _ _ (raLevels.below d8) haLevels).mono ?_
  rintro e w9 ⟨A9, rfl, o9, b9⟩
  have c9 := bnext c8 b9 (Nat.le_refl _)
  have d9 := c9
  have s9 := b9.size
  replace o4 := o4.below b9
  replace o5 := o5.below b9
  clear d8
  clear c8
  clear b9
  go_wp2_with fail
  refine (eqInt64S_calls _ _ _ _ _ _ _ _ _ (o5.rd len_cInt64) (o9.rd len_cInt64) haLevels haLevels).mono ?_
  rintro e w10 ⟨rfl, b10⟩
  clear o9
  have c10 := bnext c9 b10 (Nat.le_refl _)
  have d10 := c10
  have s10 := b10.size
  replace o4 := o4.below b10
  replace o5 := o5.below b10
  clear d9
  clear c9
  clear b10
  go_wp2_with fail
  go_ret
  exact ⟨rfl, d10⟩
end Go.Proofs.Ytmbonkklfnhkdaa
