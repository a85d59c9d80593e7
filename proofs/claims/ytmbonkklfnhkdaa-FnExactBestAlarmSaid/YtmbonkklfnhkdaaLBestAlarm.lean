/- The law on BestAlarm, walked out of the contracts of what it calls. -/
import Derived.Test.YtmbonkklfnhkdaaBest
namespace Go.Proofs.Ytmbonkklfnhkdaa
open Go.RowKit
set_option linter.unusedVariables false

set_option maxHeartbeats 2000000 in
theorem FnExactBestAlarm_calls (aaCases : Option Addr) (naCases caCases : Nat) (xaCases : List (Int × Bool)) (aPrice : Int) (w : World)
    (raCases : RdPast w aaCases naCases xaCases) (_laCases : naCases ≤ caCases) (_maCases : caCases ≤ maxLen) (_oaCases : ∀ z ∈ xaCases, OkPast z) (_waPrice : (Lit.int .i64 aPrice).wf = true) :
    Calls Try.prog 7 #[.slice aaCases naCases caCases, .int .i64 aPrice] w fun e w' => e = .returned (.bool true) ∧ Below w.heap.size w w' := by
  go_enter Try.func7, Try.ntmps7
  go_wp2_with fail
  have _zaCases := _maCases
  unfold maxLen at _zaCases
  refine (szPastS_calls _ _ _ _ _ (by omega) (by omega) (by omega)).mono ?_
  rintro e w' ⟨l1, rfl, hs1, rfl⟩
  rcases hs1 with ⟨hs1, rfl⟩ | ⟨hs1, rfl⟩
  case inl =>
    go_wp2_with fail
    go_ret
    exact ⟨rfl, (Below.refl _ _)⟩
  have haCases : naCases ≤ 1048576 := by omega
  clear _zaCases
  go_wp2_with fail
  refine (toPastS_calls _ _ _ _ _ raCases haCases).mono ?_
  rintro e w1 ⟨A2, rfl, o2, b2⟩
  have c1 := b2
  have d1 := b2
  have s1 := b2.size
  clear b2
  go_wp2_with fail
  refine (specBestAlarm_calls _ _ _ _ _ _ (o2.rd len_cPast) haCases).mono ?_
  rintro e w2 ⟨rfl, b3⟩
  clear o2
  have c2 := bnext c1 b3 (Nat.le_refl _)
  have d2 := c2
  have s2 := b3.size
  clear d1
  clear c1
  clear b3
  go_wp2_with fail
  refine (toPastS_calls _ _ _ _ _ (raCases.below d2) haCases).mono ?_
  rintro e w3 ⟨A4, rfl, o4, b4⟩
  have c3 := bnext c2 b4 (Nat.le_refl _)
  have d3 := c3
  have s3 := b4.size
  clear d2
  clear c2
  clear b4
  go_wp2_with fail
  refine (BestAlarm_calls _ _ _ _ _ _ (o4.rd len_cPast) haCases).mono ?_
  rintro e w4 ⟨rfl, b5⟩
  have c4 := bnext c3 b5 (Nat.le_refl _)
  have d4 := c4
  have s4 := b5.size
  replace o4 := o4.below b5
  clear d3
  clear c3
  clear b5
  go_wp2_with fail
  refine (toPastS_calls _ _ _ _ _ (raCases.below d4) haCases).mono ?_
  rintro e w5 ⟨A6, rfl, o6, b6⟩
  have c5 := bnext c4 b6 (Nat.le_refl _)
  have d5 := c5
  have s5 := b6.size
  replace o4 := o4.below b6
  clear d4
  clear c4
  clear b6
  go_wp2_with fail
  refine (eqPastS_calls _ _ _ _ _ _ _ _ _ (o4.rd len_cPast) (o6.rd len_cPast) haCases haCases).mono ?_
  rintro e w6 ⟨rfl, b7⟩
  clear o6
  have c6 := bnext c5 b7 (Nat.le_refl _)
  have d6 := c6
  have s6 := b7.size
  replace o4 := o4.below b7
  clear d5
  clear c5
  clear b7
  go_wp2_with fail
  go_ret
  exact ⟨rfl, d6⟩
end Go.Proofs.Ytmbonkklfnhkdaa
