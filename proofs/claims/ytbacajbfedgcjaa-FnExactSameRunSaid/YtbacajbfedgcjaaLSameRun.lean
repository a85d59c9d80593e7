/- The law on SameRun, walked out of the contracts of what it calls. -/
import Derived.Test.YtbacajbfedgcjaaTyWater
namespace Go.Proofs.Ytbacajbfedgcjaa
open Go.RowKit
set_option linter.unusedVariables false

set_option maxHeartbeats 2000000 in
theorem FnExactSameRun_calls (aaA : Option Addr) (naA caA : Nat) (xaA : List (Int × Int × Int × Int × Int)) (aaB : Option Addr) (naB caB : Nat) (xaB : List (Int × Int × Int × Int × Int)) (w : World)
    (raA : RdWater w aaA naA xaA) (_laA : naA ≤ caA) (_maA : caA ≤ maxLen) (_oaA : ∀ z ∈ xaA, OkWater z) (raB : RdWater w aaB naB xaB) (_laB : naB ≤ caB) (_maB : caB ≤ maxLen) (_oaB : ∀ z ∈ xaB, OkWater z) :
    Calls Try.prog 5 #[.slice aaA naA caA, .slice aaB naB caB] w fun e w' => e = .returned (.bool true) ∧ Below w.heap.size w w' := by
  go_enter Try.func5, Try.ntmps5
  go_wp2_with fail
  have _zaA := _maA
  unfold maxLen at _zaA
  refine (szWaterS_calls _ _ _ _ _ (by omega) (by omega) (by omega)).mono ?_
  rintro e w' ⟨l1, rfl, hs1, rfl⟩
  rcases hs1 with ⟨hs1, rfl⟩ | ⟨hs1, rfl⟩
  case inl =>
    go_wp2_with fail
    go_ret
    exact ⟨rfl, (Below.refl _ _)⟩
  have haA : naA ≤ 1048576 := by omega
  clear _zaA
  go_wp2_with fail
  have _zaB := _maB
  unfold maxLen at _zaB
  refine (szWaterS_calls _ _ _ _ _ (by omega) (by omega) (by omega)).mono ?_
  rintro e w' ⟨l2, rfl, hs2, rfl⟩
  rcases hs2 with ⟨hs2, rfl⟩ | ⟨hs2, rfl⟩
  case inl =>
    go_wp2_with fail
    go_ret
    exact ⟨rfl, (Below.refl _ _)⟩
  have haB : naB ≤ 1048576 := by omega
  clear _zaB
  go_wp2_with fail
  refine (toWaterS_calls _ _ _ _ _ raA haA).mono ?_
  rintro e w1 ⟨A3, rfl, o3, b3⟩
  have c1 := b3
  have d1 := b3
  have s1 := b3.size
  clear b3
  go_wp2_with fail
  refine (toWaterS_calls _ _ _ _ _ (raB.below d1) haB).mono ?_
  rintro e w2 ⟨A4, rfl, o4, b4⟩
  have c2 := bnext c1 b4 (Nat.le_refl _)
  have d2 := c2
  have s2 := b4.size
  replace o3 := o3.below b4
  clear d1
  clear c1
  clear b4
  go_wp2_with fail
  refine (specSameRun_calls _ _ _ _ _ _ _ _ _ (o3.rd len_cWater) haA (o4.rd len_cWater) haB).mono ?_
  rintro e w3 ⟨rfl, b5⟩
  clear o3
  clear o4
  have c3 := bnext c2 b5 (Nat.le_refl _)
  have d3 := c3
  have s3 := b5.size
  clear d2
  clear c2
  clear b5
  go_wp2_with fail
  refine (toWaterS_calls _ _ _ _ _ (raA.below d3) haA).mono ?_
  rintro e w4 ⟨A6, rfl, o6, b6⟩
  have c4 := bnext c3 b6 (Nat.le_refl _)
  have d4 := c4
  have s4 := b6.size
  clear d3
  clear c3
  clear b6
  go_wp2_with fail
  refine (toWaterS_calls _ _ _ _ _ (raB.below d4) haB).mono ?_
  rintro e w5 ⟨A7, rfl, o7, b7⟩
  have c5 := bnext c4 b7 (Nat.le_refl _)
  have d5 := c5
  have s5 := b7.size
  replace o6 := o6.below b7
  clear d4
  clear c4
  clear b7
  go_wp2_with fail
  refine (SameRun_calls _ _ _ _ _ _ _ _ _ (o6.rd len_cWater) haA (o7.rd len_cWater) haB).mono ?_
  rintro e w6 ⟨rfl, b8⟩
  have c6 := bnext c5 b8 (Nat.le_refl _)
  have d6 := c6
  have s6 := b8.size
  replace o6 := o6.below b8
  replace o7 := o7.below b8
  clear d5
  clear c5
  clear b8
  go_wp2_with fail
  refine (toWaterS_calls _ _ _ _ _ (raA.below d6) haA).mono ?_
  rintro e w7 ⟨A9, rfl, o9, b9⟩
  have c7 := bnext c6 b9 (Nat.le_refl _)
  have d7 := c7
  have s7 := b9.size
  replace o6 := o6.below b9
  replace o7 := o7.below b9
  clear d6
  clear c6
  clear b9
  go_wp2_with fail
  refine (eqWaterS_calls _ _ _ _ _ _ _ _ _ (o6.rd len_cWater) (o9.rd len_cWater) haA haA).mono ?_
  rintro e w8 ⟨rfl, b10⟩
  clear o9
  have c8 := bnext c7 b10 (Nat.le_refl _)
  have d8 := c8
  have s8 := b10.size
  replace o6 := o6.below b10
  replace o7 := o7.below b10
  clear d7
  clear c7
  clear b10
  go_wp2_with fail
  refine (toWaterS_calls _ _ _ _ _ (raB.below d8) haB).mono ?_
  rintro e w9 ⟨A11, rfl, o11, b11⟩
  have c9 := bnext c8 b11 (Nat.le_refl _)
  have d9 := c9
  have s9 := b11.size
  replace o6 := o6.below b11
  replace o7 := o7.below b11
  clear d8
  clear c8
  clear b11
  go_wp2_with fail
  refine (eqWaterS_calls _ _ _ _ _ _ _ _ _ (o7.rd len_cWater) (o11.rd len_cWater) haB haB).mono ?_
  rintro e w10 ⟨rfl, b12⟩
  clear o11
  have c10 := bnext c9 b12 (Nat.le_refl _)
  have d10 := c10
  have s10 := b12.size
  replace o6 := o6.below b12
  replace o7 := o7.below b12
  clear d9
  clear c9
  clear b12
  go_wp2_with fail
  go_ret
  exact ⟨rfl, d10⟩
end Go.Proofs.Ytbacajbfedgcjaa
