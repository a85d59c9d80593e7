/- The law on WorstDays, walked out of the contracts of what it calls. -/
import Derived.Test.YtbacajbfedgcjaaWorst
namespace Go.Proofs.Ytbacajbfedgcjaa
open Go.RowKit
set_option linter.unusedVariables false

set_option maxHeartbeats 2000000 in
theorem FnExactWorstDays_calls (aaList : Option Addr) (naList caList : Nat) (xaList : List (Int × Int × Int × Int × Int)) (w : World)
    (raList : RdWater w aaList naList xaList) (_laList : naList ≤ caList) (_maList : caList ≤ maxLen) (_oaList : ∀ z ∈ xaList, OkWater z) :
    Calls Try.prog 8 #[.slice aaList naList caList] w fun e w' => e = .returned (.bool true) ∧ Below w.heap.size w w' := by
  go_enter Try.func8, Try.ntmps8
  go_wp2_with fail
  have _zaList := _maList
  unfold maxLen at _zaList
  refine (szWaterS_calls _ _ _ _ _ (by omega) (by omega) (by omega)).mono ?_
  rintro e w' ⟨l1, rfl, hs1, rfl⟩
  rcases hs1 with ⟨hs1, rfl⟩ | ⟨hs1, rfl⟩
  case inl =>
    go_wp2_with fail
    go_ret
    exact ⟨rfl, (Below.refl _ _)⟩
  have haList : naList ≤ 1048576 := by omega
  clear _zaList
  go_wp2_with fail
  refine (toWaterS_calls _ _ _ _ _ raList haList).mono ?_
  rintro e w1 ⟨A2, rfl, o2, b2⟩
  have c1 := b2
  have d1 := b2
  have s1 := b2.size
  clear b2
  go_wp2_with fail
  refine (specWorstDays_calls _ _ _ _ _ (o2.rd len_cWater) haList).mono ?_
  rintro e w2 ⟨rfl, b3⟩
  clear o2
  have c2 := bnext c1 b3 (Nat.le_refl _)
  have d2 := c2
  have s2 := b3.size
  clear d1
  clear c1
  clear b3
  go_wp2_with fail
  refine (toWaterS_calls _ _ _ _ _ (raList.below d2) haList).mono ?_
  rintro e w3 ⟨A4, rfl, o4, b4⟩
  have c3 := bnext c2 b4 (Nat.le_refl _)
  have d3 := c3
  have s3 := b4.size
  clear d2
  clear c2
  clear b4
  go_wp2_with fail
  refine (WorstDays_calls _ _ _ _ _ (o4.rd len_cWater) haList).mono ?_
  rintro e w4 ⟨rfl, b5⟩
  have c4 := bnext c3 b5 (Nat.le_refl _)
  have d4 := c4
  have s4 := b5.size
  replace o4 := o4.below b5
  clear d3
  clear c3
  clear b5
  go_wp2_with fail
  refine (toWaterS_calls _ _ _ _ _ (raList.below d4) haList).mono ?_
  rintro e w5 ⟨A6, rfl, o6, b6⟩
  have c5 := bnext c4 b6 (Nat.le_refl _)
  have d5 := c5
  have s5 := b6.size
  replace o4 := o4.below b6
  clear d4
  clear c4
  clear b6
  go_wp2_with fail
  refine (eqWaterS_calls _ _ _ _ _ _ _ _ _ (o4.rd len_cWater) (o6.rd len_cWater) haList haList).mono ?_
  rintro e w6 ⟨rfl, b7⟩
  clear o6
  have c6 := bnext c5 b7 (Nat.le_refl _)
  have d6 := c6
  have s6 := b7.size
  replace o4 := o4.below b7
  clear d5
  clear c5
  clear b7
  go_wp2_with fail
  go_ret
  exact ⟨rfl, d6⟩
end Go.Proofs.Ytbacajbfedgcjaa
